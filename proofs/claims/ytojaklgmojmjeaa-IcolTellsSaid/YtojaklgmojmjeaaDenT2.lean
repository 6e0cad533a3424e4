/- What the evaluator asks of the seat's types and functions: rows for simp. -/
import Derived.Test.YtojaklgmojmjeaaDenT1
import Derived.Test.YtojaklgmojmjeaaDenK4
namespace Go.Proofs.Ytojaklgmojmjeaa.D
open Go Go.Den Go.Proofs
theorem siz1 : tSize E.P 1 = some 1 := by kernel_rfl
theorem byt1 : tBytes E.P 1 = some 8 := by kernel_rfl
theorem agg1 : tAgg E.P 1 = some false := by kernel_rfl
theorem zer1 : tZero E.P 1 = some [.nilf] := by kernel_rfl
theorem und2 : E.P.underlying 2 = some (.int .i64) := by kernel_rfl
theorem siz2 : tSize E.P 2 = some 1 := by kernel_rfl
theorem byt2 : tBytes E.P 2 = some 8 := by kernel_rfl
theorem agg2 : tAgg E.P 2 = some false := by kernel_rfl
theorem zer2 : tZero E.P 2 = some [.int .i64 (0)] := by kernel_rfl
theorem und3 : E.P.underlying 3 = some (.int .i64) := by kernel_rfl
theorem siz3 : tSize E.P 3 = some 1 := by kernel_rfl
theorem byt3 : tBytes E.P 3 = some 8 := by kernel_rfl
theorem agg3 : tAgg E.P 3 = some false := by kernel_rfl
theorem zer3 : tZero E.P 3 = some [.int .i64 (0)] := by kernel_rfl
theorem und4 : E.P.underlying 4 = some (.bool) := by kernel_rfl
theorem siz4 : tSize E.P 4 = some 1 := by kernel_rfl
theorem byt4 : tBytes E.P 4 = some 1 := by kernel_rfl
theorem agg4 : tAgg E.P 4 = some false := by kernel_rfl
theorem zer4 : tZero E.P 4 = some [.bool false] := by kernel_rfl
theorem und5 : E.P.underlying 5 = some (.int .u8) := by kernel_rfl
theorem siz5 : tSize E.P 5 = some 1 := by kernel_rfl
theorem byt5 : tBytes E.P 5 = some 1 := by kernel_rfl
theorem agg5 : tAgg E.P 5 = some false := by kernel_rfl
theorem zer5 : tZero E.P 5 = some [.int .u8 (0)] := by kernel_rfl
theorem und6 : E.P.underlying 6 = some (.int .u8) := by kernel_rfl
theorem siz6 : tSize E.P 6 = some 1 := by kernel_rfl
theorem byt6 : tBytes E.P 6 = some 1 := by kernel_rfl
theorem agg6 : tAgg E.P 6 = some false := by kernel_rfl
theorem zer6 : tZero E.P 6 = some [.int .u8 (0)] := by kernel_rfl
theorem und9 : E.P.underlying 9 = some (.string) := by kernel_rfl
theorem siz9 : tSize E.P 9 = some 1 := by kernel_rfl
theorem byt9 : tBytes E.P 9 = some 16 := by kernel_rfl
theorem agg9 : tAgg E.P 9 = some false := by kernel_rfl
theorem zer9 : tZero E.P 9 = some [.str []] := by kernel_rfl
theorem siz22 : tSize E.P 22 = some 4 := by kernel_rfl
theorem byt22 : tBytes E.P 22 = some 40 := by kernel_rfl
theorem agg22 : tAgg E.P 22 = some true := by kernel_rfl
theorem zer22 : tZero E.P 22 = some [.str [], .int .i64 (0), .int .i64 (0), .bool false] := by kernel_rfl
theorem fie22_0 : tField E.P 22 0 = some (0, 9) := by kernel_rfl
theorem fie22_1 : tField E.P 22 1 = some (1, 3) := by kernel_rfl
theorem fie22_2 : tField E.P 22 2 = some (2, 2) := by kernel_rfl
theorem fie22_3 : tField E.P 22 3 = some (3, 4) := by kernel_rfl
theorem pla22 : tPlaces E.P 22 = some [(0, 1), (1, 1), (2, 1), (3, 1)] := by kernel_rfl
theorem und23 : E.P.underlying 23 = some (.slice 22) := by kernel_rfl
theorem siz23 : tSize E.P 23 = some 1 := by kernel_rfl
theorem byt23 : tBytes E.P 23 = some 24 := by kernel_rfl
theorem agg23 : tAgg E.P 23 = some false := by kernel_rfl
theorem zer23 : tZero E.P 23 = some [.nils] := by kernel_rfl
theorem und24 : E.P.underlying 24 = some (.slice 2) := by kernel_rfl
theorem siz24 : tSize E.P 24 = some 1 := by kernel_rfl
theorem byt24 : tBytes E.P 24 = some 24 := by kernel_rfl
theorem agg24 : tAgg E.P 24 = some false := by kernel_rfl
theorem zer24 : tZero E.P 24 = some [.nils] := by kernel_rfl
theorem und27 : E.P.underlying 27 = some (.slice 5) := by kernel_rfl
theorem siz27 : tSize E.P 27 = some 1 := by kernel_rfl
theorem byt27 : tBytes E.P 27 = some 24 := by kernel_rfl
theorem agg27 : tAgg E.P 27 = some false := by kernel_rfl
theorem zer27 : tZero E.P 27 = some [.nils] := by kernel_rfl
theorem und32 : E.P.underlying 32 = some (.int .u64) := by kernel_rfl
theorem siz32 : tSize E.P 32 = some 1 := by kernel_rfl
theorem byt32 : tBytes E.P 32 = some 8 := by kernel_rfl
theorem agg32 : tAgg E.P 32 = some false := by kernel_rfl
theorem zer32 : tZero E.P 32 = some [.int .u64 (0)] := by kernel_rfl
theorem und35 : E.P.underlying 35 = some (.slice 3) := by kernel_rfl
theorem siz35 : tSize E.P 35 = some 1 := by kernel_rfl
theorem byt35 : tBytes E.P 35 = some 24 := by kernel_rfl
theorem agg35 : tAgg E.P 35 = some false := by kernel_rfl
theorem zer35 : tZero E.P 35 = some [.nils] := by kernel_rfl
theorem und41 : E.P.underlying 41 = some (.slice 27) := by kernel_rfl
theorem siz41 : tSize E.P 41 = some 1 := by kernel_rfl
theorem byt41 : tBytes E.P 41 = some 24 := by kernel_rfl
theorem agg41 : tAgg E.P 41 = some false := by kernel_rfl
theorem zer41 : tZero E.P 41 = some [.nils] := by kernel_rfl
theorem und44 : E.P.underlying 44 = some (.pointer 57) := by kernel_rfl
theorem siz44 : tSize E.P 44 = some 1 := by kernel_rfl
theorem byt44 : tBytes E.P 44 = some 8 := by kernel_rfl
theorem agg44 : tAgg E.P 44 = some false := by kernel_rfl
theorem zer44 : tZero E.P 44 = some [.nilp] := by kernel_rfl
theorem siz57 : tSize E.P 57 = some 2 := by kernel_rfl
theorem byt57 : tBytes E.P 57 = some 32 := by kernel_rfl
theorem agg57 : tAgg E.P 57 = some true := by kernel_rfl
theorem zer57 : tZero E.P 57 = some [.nils, .bool false] := by kernel_rfl
theorem fie57_0 : tField E.P 57 0 = some (0, 27) := by kernel_rfl
theorem fie57_1 : tField E.P 57 1 = some (1, 4) := by kernel_rfl
theorem pla57 : tPlaces E.P 57 = some [(0, 1), (1, 1)] := by kernel_rfl
theorem und59 : E.P.underlying 59 = some (.int .u64) := by kernel_rfl
theorem siz59 : tSize E.P 59 = some 1 := by kernel_rfl
theorem byt59 : tBytes E.P 59 = some 8 := by kernel_rfl
theorem agg59 : tAgg E.P 59 = some false := by kernel_rfl
theorem zer59 : tZero E.P 59 = some [.int .u64 (0)] := by kernel_rfl
theorem und63 : E.P.underlying 63 = some (.slice 59) := by kernel_rfl
theorem siz63 : tSize E.P 63 = some 1 := by kernel_rfl
theorem byt63 : tBytes E.P 63 = some 24 := by kernel_rfl
theorem agg63 : tAgg E.P 63 = some false := by kernel_rfl
theorem zer63 : tZero E.P 63 = some [.nils] := by kernel_rfl
theorem und73 : E.P.underlying 73 = some (.pointer 75) := by kernel_rfl
theorem siz73 : tSize E.P 73 = some 1 := by kernel_rfl
theorem byt73 : tBytes E.P 73 = some 8 := by kernel_rfl
theorem agg73 : tAgg E.P 73 = some false := by kernel_rfl
theorem zer73 : tZero E.P 73 = some [.nilp] := by kernel_rfl
theorem siz75 : tSize E.P 75 = some 2 := by kernel_rfl
theorem byt75 : tBytes E.P 75 = some 32 := by kernel_rfl
theorem agg75 : tAgg E.P 75 = some true := by kernel_rfl
theorem zer75 : tZero E.P 75 = some [.nils, .bool false] := by kernel_rfl
theorem fie75_0 : tField E.P 75 0 = some (0, 27) := by kernel_rfl
theorem fie75_1 : tField E.P 75 1 = some (1, 4) := by kernel_rfl
theorem pla75 : tPlaces E.P 75 = some [(0, 1), (1, 1)] := by kernel_rfl
theorem siz87 : tSize E.P 87 = some 1 := by kernel_rfl
theorem byt87 : tBytes E.P 87 = some 8 := by kernel_rfl
theorem agg87 : tAgg E.P 87 = some false := by kernel_rfl
theorem zer87 : tZero E.P 87 = some [.nilf] := by kernel_rfl
theorem res3 : Try.f3.results.toList = [.tmp 2] := by kernel_rfl
theorem ext3 : E.ext 3 = none := by kernel_rfl
theorem res4 : Try.f4.results.toList = [.tmp 6] := by kernel_rfl
theorem ext4 : E.ext 4 = none := by kernel_rfl
theorem lv4_6 : E.lv 4 6 = [⟨0, []⟩, ⟨1, []⟩, ⟨2, []⟩, ⟨7, []⟩, ⟨8, []⟩, ⟨9, []⟩, ⟨26, []⟩, ⟨27, []⟩] := by kernel_rfl
theorem res5 : Try.f5.results.toList = [.tmp 2] := by kernel_rfl
theorem ext5 : E.ext 5 = none := by kernel_rfl
theorem lv5_3 : E.lv 5 3 = [⟨0, []⟩, ⟨3, [(0, 2, 1)]⟩, ⟨4, []⟩] := by kernel_rfl
theorem lv5_7 : E.lv 5 7 = [⟨3, []⟩, ⟨33, []⟩, ⟨34, []⟩, ⟨35, []⟩] := by kernel_rfl
theorem res6 : Try.f6.results.toList = [.tmp 14] := by kernel_rfl
theorem ext6 : E.ext 6 = none := by kernel_rfl
theorem lv6_7 : E.lv 6 7 = [⟨3, []⟩, ⟨4, []⟩, ⟨5, []⟩, ⟨6, []⟩, ⟨15, []⟩, ⟨52, []⟩, ⟨53, []⟩, ⟨54, []⟩] := by kernel_rfl
theorem lv6_19 : E.lv 6 19 = [⟨3, []⟩, ⟨4, []⟩, ⟨5, []⟩, ⟨6, []⟩, ⟨15, []⟩, ⟨52, []⟩, ⟨53, []⟩, ⟨54, []⟩, ⟨107, []⟩, ⟨108, []⟩, ⟨109, []⟩] := by kernel_rfl
theorem lv6_22 : E.lv 6 22 = [⟨3, []⟩, ⟨4, []⟩, ⟨5, []⟩, ⟨6, []⟩, ⟨15, []⟩, ⟨25, []⟩, ⟨52, []⟩, ⟨53, []⟩, ⟨54, []⟩, ⟨107, []⟩, ⟨108, []⟩, ⟨109, []⟩, ⟨118, []⟩, ⟨119, []⟩, ⟨120, []⟩] := by kernel_rfl
theorem lv6_29 : E.lv 6 29 = [⟨3, []⟩, ⟨4, []⟩, ⟨5, []⟩, ⟨6, []⟩, ⟨15, []⟩, ⟨25, []⟩, ⟨27, []⟩, ⟨30, []⟩, ⟨31, []⟩, ⟨52, []⟩, ⟨53, []⟩, ⟨54, []⟩, ⟨107, []⟩, ⟨108, []⟩, ⟨109, []⟩, ⟨118, []⟩, ⟨119, []⟩, ⟨120, []⟩, ⟨151, []⟩, ⟨152, []⟩, ⟨153, []⟩] := by kernel_rfl
theorem res7 : Try.f7.results.toList = [.tmp 4] := by kernel_rfl
theorem ext7 : E.ext 7 = none := by kernel_rfl
theorem lv7_7 : E.lv 7 7 = [⟨5, []⟩, ⟨6, []⟩, ⟨38, []⟩, ⟨39, []⟩, ⟨40, []⟩] := by kernel_rfl
theorem lv7_15 : E.lv 7 15 = [⟨5, []⟩, ⟨6, []⟩, ⟨99, []⟩, ⟨100, []⟩] := by kernel_rfl
theorem res8 : Try.f8.results.toList = [.tmp 4, .tmp 5] := by kernel_rfl
theorem ext8 : E.ext 8 = none := by kernel_rfl
theorem res9 : Try.f9.results.toList = [.tmp 6, .tmp 7] := by kernel_rfl
theorem ext9 : E.ext 9 = none := by kernel_rfl
theorem res10 : Try.f10.results.toList = [.tmp 0] := by kernel_rfl
theorem ext10 : E.ext 10 = none := by kernel_rfl
theorem res11 : Try.f11.results.toList = [.tmp 2] := by kernel_rfl
theorem ext11 : E.ext 11 = none := by kernel_rfl
theorem lv11_3 : E.lv 11 3 = [⟨0, []⟩, ⟨3, []⟩, ⟨4, []⟩] := by kernel_rfl
theorem res12 : Try.f12.results.toList = [.tmp 4, .tmp 5] := by kernel_rfl
theorem ext12 : E.ext 12 = none := by kernel_rfl
theorem res13 : Try.f13.results.toList = [.tmp 4] := by kernel_rfl
theorem ext13 : E.ext 13 = none := by kernel_rfl
theorem lv13_4 : E.lv 13 4 = [⟨0, []⟩, ⟨1, []⟩, ⟨5, []⟩] := by kernel_rfl
theorem res14 : Try.f14.results.toList = [.tmp 4] := by kernel_rfl
theorem ext14 : E.ext 14 = none := by kernel_rfl
theorem lv14_3 : E.lv 14 3 = [⟨0, []⟩, ⟨1, []⟩, ⟨5, [(0, 2, 1)]⟩, ⟨6, []⟩] := by kernel_rfl
theorem res15 : Try.f15.results.toList = [.tmp 2] := by kernel_rfl
theorem ext15 : E.ext 15 = none := by kernel_rfl
theorem res16 : Try.f16.results.toList = [.tmp 4, .tmp 5] := by kernel_rfl
theorem ext16 : E.ext 16 = none := by kernel_rfl
theorem res17 : Try.f17.results.toList = [.tmp 4, .tmp 5] := by kernel_rfl
theorem ext17 : E.ext 17 = none := by kernel_rfl
theorem lv17_4 : E.lv 17 4 = [⟨6, []⟩, ⟨7, []⟩, ⟨8, [(0, 2, 1)]⟩, ⟨9, []⟩] := by kernel_rfl
theorem res18 : Try.f18.results.toList = [.tmp 2] := by kernel_rfl
theorem ext18 : E.ext 18 = none := by kernel_rfl
theorem res19 : Try.f19.results.toList = [.tmp 4] := by kernel_rfl
theorem ext19 : E.ext 19 = none := by kernel_rfl
theorem lv19_3 : E.lv 19 3 = [⟨0, []⟩, ⟨5, [(0, 2, 1)]⟩, ⟨6, []⟩, ⟨7, []⟩] := by kernel_rfl
theorem res20 : Try.f20.results.toList = [.tmp 4] := by kernel_rfl
theorem ext20 : E.ext 20 = none := by kernel_rfl
theorem lv20_2 : E.lv 20 2 = [⟨0, []⟩, ⟨1, []⟩, ⟨5, [(0, 2, 1)]⟩] := by kernel_rfl
theorem res21 : Try.f21.results.toList = [.tmp 4] := by kernel_rfl
theorem ext21 : E.ext 21 = none := by kernel_rfl
theorem lv21_10 : E.lv 21 10 = [⟨5, []⟩, ⟨9, [(0, 2, 1)]⟩, ⟨40, []⟩, ⟨41, []⟩, ⟨42, []⟩] := by kernel_rfl
theorem res22 : Try.f22.results.toList = [.tmp 4] := by kernel_rfl
theorem ext22 : E.ext 22 = none := by kernel_rfl
theorem lv22_8 : E.lv 22 8 = [⟨6, []⟩, ⟨9, [(0, 2, 1)]⟩, ⟨37, []⟩, ⟨38, []⟩, ⟨39, []⟩] := by kernel_rfl
theorem res23 : Try.f23.results.toList = [.tmp 4] := by kernel_rfl
theorem ext23 : E.ext 23 = none := by kernel_rfl
theorem res24 : Try.f24.results.toList = [.tmp 2] := by kernel_rfl
theorem ext24 : E.ext 24 = some .clip := by kernel_rfl
theorem res25 : Try.f25.results.toList = [.tmp 4, .tmp 5] := by kernel_rfl
theorem ext25 : E.ext 25 = none := by kernel_rfl
theorem res26 : Try.f26.results.toList = [.tmp 4] := by kernel_rfl
theorem ext26 : E.ext 26 = none := by kernel_rfl
theorem lv26_3 : E.lv 26 3 = [⟨0, []⟩, ⟨1, []⟩, ⟨5, []⟩, ⟨6, []⟩] := by kernel_rfl
theorem res27 : Try.f27.results.toList = [.tmp 2] := by kernel_rfl
theorem ext27 : E.ext 27 = none := by kernel_rfl
theorem lv27_3 : E.lv 27 3 = [⟨0, []⟩, ⟨3, [(0, 27, 1)]⟩, ⟨4, []⟩] := by kernel_rfl
theorem lv27_8 : E.lv 27 8 = [⟨0, []⟩, ⟨3, []⟩, ⟨4, []⟩, ⟨5, []⟩, ⟨6, [(0, 5, 1)]⟩, ⟨7, []⟩] := by kernel_rfl
theorem res28 : Try.f28.results.toList = [.tmp 6, .tmp 7] := by kernel_rfl
theorem ext28 : E.ext 28 = none := by kernel_rfl
theorem lv28_8 : E.lv 28 8 = [⟨1, []⟩, ⟨2, []⟩, ⟨8, [(0, 5, 1)]⟩, ⟨9, []⟩] := by kernel_rfl
theorem lv28_13 : E.lv 28 13 = [⟨1, []⟩, ⟨2, []⟩, ⟨8, [(0, 5, 1)]⟩, ⟨10, []⟩] := by kernel_rfl
theorem lv28_15 : E.lv 28 15 = [⟨1, []⟩, ⟨2, []⟩, ⟨8, []⟩, ⟨10, []⟩, ⟨11, []⟩] := by kernel_rfl
theorem lv28_26 : E.lv 28 26 = [⟨1, []⟩, ⟨8, []⟩, ⟨12, []⟩, ⟨13, []⟩, ⟨14, []⟩] := by kernel_rfl
theorem lv28_31 : E.lv 28 31 = [⟨1, []⟩, ⟨8, []⟩, ⟨12, []⟩, ⟨13, []⟩, ⟨15, [(0, 59, 1)]⟩, ⟨16, []⟩] := by kernel_rfl
theorem lv28_40 : E.lv 28 40 = [⟨1, []⟩, ⟨2, []⟩, ⟨8, [(0, 5, 1)]⟩, ⟨18, []⟩, ⟨19, []⟩] := by kernel_rfl
theorem lv28_45 : E.lv 28 45 = [⟨1, []⟩, ⟨8, []⟩, ⟨18, []⟩, ⟨20, [(0, 59, 1)]⟩, ⟨21, []⟩] := by kernel_rfl
theorem lv28_48 : E.lv 28 48 = [⟨1, []⟩, ⟨8, []⟩, ⟨18, []⟩, ⟨20, []⟩, ⟨21, []⟩, ⟨22, []⟩] := by kernel_rfl
theorem res29 : Try.f29.results.toList = [.tmp 6, .tmp 7] := by kernel_rfl
theorem ext29 : E.ext 29 = none := by kernel_rfl
theorem lv29_8 : E.lv 29 8 = [⟨0, []⟩, ⟨1, []⟩, ⟨2, []⟩, ⟨8, []⟩, ⟨9, [(0, 27, 1)]⟩, ⟨11, []⟩] := by kernel_rfl
theorem lv29_12 : E.lv 29 12 = [⟨0, []⟩, ⟨1, []⟩, ⟨2, []⟩, ⟨8, []⟩, ⟨9, [(0, 27, 1)]⟩] := by kernel_rfl
theorem lv29_17 : E.lv 29 17 = [⟨0, []⟩, ⟨1, []⟩, ⟨2, []⟩, ⟨8, []⟩, ⟨9, [(0, 27, 1)]⟩, ⟨12, []⟩, ⟨13, []⟩] := by kernel_rfl
theorem lv29_29 : E.lv 29 29 = [⟨0, []⟩, ⟨1, []⟩, ⟨2, []⟩, ⟨8, []⟩, ⟨9, [(0, 27, 1)]⟩, ⟨14, []⟩, ⟨15, []⟩, ⟨17, []⟩] := by kernel_rfl
theorem lv29_35 : E.lv 29 35 = [⟨0, []⟩, ⟨1, []⟩, ⟨2, []⟩, ⟨8, []⟩, ⟨9, []⟩, ⟨10, [(0, 27, 1)]⟩, ⟨18, []⟩, ⟨19, []⟩] := by kernel_rfl
theorem lv29_40 : E.lv 29 40 = [⟨0, []⟩, ⟨1, []⟩, ⟨2, []⟩, ⟨8, []⟩, ⟨9, [(0, 27, 1)]⟩, ⟨10, []⟩, ⟨20, []⟩, ⟨21, []⟩, ⟨22, []⟩] := by kernel_rfl
theorem res30 : Try.f30.results.toList = [.tmp 2] := by kernel_rfl
theorem ext30 : E.ext 30 = none := by kernel_rfl
theorem lv30_3 : E.lv 30 3 = [⟨0, []⟩, ⟨3, []⟩, ⟨4, []⟩] := by kernel_rfl
theorem res31 : Try.f31.results.toList = [.tmp 2] := by kernel_rfl
theorem ext31 : E.ext 31 = some (.fn (cloneF 5 1 1)) := by kernel_rfl
theorem res32 : Try.f32.results.toList = [.tmp 2] := by kernel_rfl
theorem ext32 : E.ext 32 = none := by kernel_rfl
theorem res33 : Try.f33.results.toList = [.tmp 2] := by kernel_rfl
theorem ext33 : E.ext 33 = none := by kernel_rfl
theorem lv33_3 : E.lv 33 3 = [⟨0, []⟩, ⟨3, []⟩, ⟨9, []⟩, ⟨10, []⟩, ⟨11, []⟩] := by kernel_rfl
theorem res34 : Try.f34.results.toList = [.tmp 2] := by kernel_rfl
theorem ext34 : E.ext 34 = none := by kernel_rfl
theorem res35 : Try.f35.results.toList = [.tmp 4] := by kernel_rfl
theorem ext35 : E.ext 35 = some (.fn (repeatF 2)) := by kernel_rfl
theorem res36 : Try.f36.results.toList = [.tmp 2] := by kernel_rfl
theorem ext36 : E.ext 36 = none := by kernel_rfl
theorem res37 : Try.f37.results.toList = [.tmp 6, .tmp 7] := by kernel_rfl
theorem ext37 : E.ext 37 = none := by kernel_rfl
theorem lv37_6 : E.lv 37 6 = [⟨0, []⟩, ⟨1, []⟩, ⟨8, []⟩, ⟨29, []⟩, ⟨30, []⟩] := by kernel_rfl
theorem res38 : Try.f38.results.toList = [.tmp 2] := by kernel_rfl
theorem ext38 : E.ext 38 = none := by kernel_rfl
theorem res39 : Try.f39.results.toList = [.tmp 2] := by kernel_rfl
theorem ext39 : E.ext 39 = none := by kernel_rfl
theorem lv39_3 : E.lv 39 3 = [⟨3, [(0, 5, 1)]⟩, ⟨6, []⟩, ⟨7, []⟩, ⟨8, []⟩] := by kernel_rfl
theorem res40 : Try.f40.results.toList = [.tmp 2] := by kernel_rfl
theorem ext40 : E.ext 40 = none := by kernel_rfl
theorem lv40_2 : E.lv 40 2 = [⟨0, []⟩, ⟨3, [(0, 5, 1)]⟩] := by kernel_rfl
theorem lv40_4 : E.lv 40 4 = [⟨0, []⟩, ⟨3, []⟩, ⟨4, []⟩] := by kernel_rfl
theorem res41 : Try.f41.results.toList = [.tmp 2] := by kernel_rfl
theorem ext41 : E.ext 41 = none := by kernel_rfl
theorem lv41_7 : E.lv 41 7 = [⟨3, []⟩, ⟨4, []⟩, ⟨5, [(0, 59, 1)]⟩, ⟨20, []⟩, ⟨21, []⟩, ⟨22, []⟩] := by kernel_rfl
theorem res42 : Try.f42.results.toList = [.tmp 2] := by kernel_rfl
theorem ext42 : E.ext 42 = none := by kernel_rfl
theorem lv42_4 : E.lv 42 4 = [⟨0, []⟩, ⟨3, []⟩, ⟨4, [(0, 5, 1)]⟩, ⟨20, []⟩, ⟨21, []⟩, ⟨22, []⟩] := by kernel_rfl
theorem lv42_10 : E.lv 42 10 = [⟨3, []⟩, ⟨4, []⟩, ⟨7, [(0, 59, 1)]⟩, ⟨31, []⟩, ⟨32, []⟩, ⟨33, []⟩] := by kernel_rfl
theorem res43 : Try.f43.results.toList = [.tmp 6] := by kernel_rfl
theorem ext43 : E.ext 43 = none := by kernel_rfl
theorem res44 : Try.f44.results.toList = [.tmp 4] := by kernel_rfl
theorem ext44 : E.ext 44 = none := by kernel_rfl
theorem lv44_2 : E.lv 44 2 = [⟨1, []⟩, ⟨5, [(0, 5, 1)]⟩] := by kernel_rfl
theorem res45 : Try.f45.results.toList = [.tmp 2] := by kernel_rfl
theorem ext45 : E.ext 45 = none := by kernel_rfl
theorem lv45_2 : E.lv 45 2 = [⟨0, []⟩, ⟨3, []⟩] := by kernel_rfl
theorem res46 : Try.f46.results.toList = [.tmp 2] := by kernel_rfl
theorem ext46 : E.ext 46 = none := by kernel_rfl
theorem res47 : Try.f47.results.toList = [.tmp 4] := by kernel_rfl
theorem ext47 : E.ext 47 = none := by kernel_rfl
theorem lv47_4 : E.lv 47 4 = [⟨0, []⟩, ⟨1, []⟩, ⟨5, [(0, 5, 1)]⟩, ⟨6, []⟩] := by kernel_rfl
theorem lv47_7 : E.lv 47 7 = [⟨0, []⟩, ⟨1, []⟩, ⟨5, [(0, 5, 1)]⟩, ⟨6, []⟩, ⟨7, []⟩] := by kernel_rfl
theorem lv47_12 : E.lv 47 12 = [⟨5, []⟩, ⟨8, []⟩, ⟨9, []⟩] := by kernel_rfl
theorem res48 : Try.f48.results.toList = [.tmp 2] := by kernel_rfl
theorem ext48 : E.ext 48 = none := by kernel_rfl
theorem lv48_3 : E.lv 48 3 = [⟨0, []⟩, ⟨3, [(0, 27, 1)]⟩, ⟨4, []⟩] := by kernel_rfl
theorem lv48_6 : E.lv 48 6 = [⟨0, []⟩, ⟨3, []⟩, ⟨4, []⟩, ⟨5, []⟩] := by kernel_rfl
theorem res49 : Try.f49.results.toList = [.tmp 4] := by kernel_rfl
theorem ext49 : E.ext 49 = none := by kernel_rfl
theorem res50 : Try.f50.results.toList = [.tmp 2] := by kernel_rfl
theorem ext50 : E.ext 50 = none := by kernel_rfl
theorem lv50_3 : E.lv 50 3 = [⟨0, []⟩, ⟨3, []⟩, ⟨4, []⟩] := by kernel_rfl
theorem res51 : Try.f51.results.toList = [.tmp 2] := by kernel_rfl
theorem ext51 : E.ext 51 = none := by kernel_rfl
theorem res52 : Try.f52.results.toList = [.tmp 6, .tmp 7] := by kernel_rfl
theorem ext52 : E.ext 52 = none := by kernel_rfl
theorem lv52_6 : E.lv 52 6 = [⟨0, []⟩, ⟨1, []⟩, ⟨2, []⟩, ⟨8, [(0, 59, 1)]⟩, ⟨9, []⟩] := by kernel_rfl
theorem res53 : Try.f53.results.toList = [.tmp 2] := by kernel_rfl
theorem ext53 : E.ext 53 = none := by kernel_rfl
theorem lv53_2 : E.lv 53 2 = [⟨0, []⟩, ⟨3, []⟩] := by kernel_rfl
theorem res54 : Try.f54.results.toList = [] := by kernel_rfl
theorem ext54 : E.ext 54 = none := by kernel_rfl
theorem res56 : Try.f56.results.toList = [.tmp 2] := by kernel_rfl
theorem ext56 : E.ext 56 = none := by kernel_rfl
theorem res57 : Try.f57.results.toList = [.tmp 4] := by kernel_rfl
theorem ext57 : E.ext 57 = none := by kernel_rfl
theorem res58 : Try.f58.results.toList = [.tmp 6] := by kernel_rfl
theorem ext58 : E.ext 58 = none := by kernel_rfl
theorem lv58_3 : E.lv 58 3 = [⟨0, []⟩, ⟨1, []⟩, ⟨2, []⟩, ⟨7, []⟩, ⟨8, []⟩] := by kernel_rfl
theorem res59 : Try.f59.results.toList = [.tmp 4] := by kernel_rfl
theorem ext59 : E.ext 59 = none := by kernel_rfl
theorem lv59_5 : E.lv 59 5 = [⟨0, []⟩, ⟨5, []⟩, ⟨6, []⟩, ⟨17, []⟩, ⟨18, []⟩, ⟨19, []⟩] := by kernel_rfl
theorem lv59_8 : E.lv 59 8 = [⟨0, []⟩, ⟨5, []⟩, ⟨6, []⟩, ⟨8, []⟩, ⟨9, []⟩, ⟨17, []⟩, ⟨18, []⟩, ⟨19, []⟩] := by kernel_rfl
theorem res60 : Try.f60.results.toList = [.tmp 2] := by kernel_rfl
theorem ext60 : E.ext 60 = some .clip := by kernel_rfl
theorem res61 : Try.f61.results.toList = [.tmp 2] := by kernel_rfl
theorem ext61 : E.ext 61 = none := by kernel_rfl
theorem res62 : Try.f62.results.toList = [.tmp 4] := by kernel_rfl
theorem ext62 : E.ext 62 = none := by kernel_rfl
theorem lv62_2 : E.lv 62 2 = [⟨1, []⟩, ⟨5, [(0, 5, 1)]⟩] := by kernel_rfl
theorem res63 : Try.f63.results.toList = [.tmp 2] := by kernel_rfl
theorem ext63 : E.ext 63 = none := by kernel_rfl
theorem res64 : Try.f64.results.toList = [.tmp 2] := by kernel_rfl
theorem ext64 : E.ext 64 = none := by kernel_rfl
theorem lv64_5 : E.lv 64 5 = [⟨0, []⟩, ⟨3, []⟩, ⟨4, []⟩] := by kernel_rfl
theorem res65 : Try.f65.results.toList = [.tmp 2] := by kernel_rfl
theorem ext65 : E.ext 65 = none := by kernel_rfl
theorem lv65_5 : E.lv 65 5 = [⟨0, []⟩, ⟨3, []⟩, ⟨4, []⟩] := by kernel_rfl
theorem res66 : Try.f66.results.toList = [.tmp 2] := by kernel_rfl
theorem ext66 : E.ext 66 = some (.rw true compactG) := by kernel_rfl
theorem res67 : Try.f67.results.toList = [.tmp 2] := by kernel_rfl
theorem ext67 : E.ext 67 = none := by kernel_rfl
theorem res68 : Try.f68.results.toList = [.tmp 2] := by kernel_rfl
theorem ext68 : E.ext 68 = some (.fn (valuesF 79)) := by kernel_rfl
theorem res69 : Try.f69.results.toList = [.tmp 4, .tmp 5] := by kernel_rfl
theorem ext69 : E.ext 69 = none := by kernel_rfl
theorem lv69_3 : E.lv 69 3 = [⟨0, []⟩, ⟨1, []⟩, ⟨6, []⟩, ⟨7, []⟩, ⟨8, []⟩] := by kernel_rfl
theorem res70 : Try.f70.results.toList = [.tmp 4] := by kernel_rfl
theorem ext70 : E.ext 70 = none := by kernel_rfl
theorem res71 : Try.f71.results.toList = [.tmp 4] := by kernel_rfl
theorem ext71 : E.ext 71 = none := by kernel_rfl
theorem res72 : Try.f72.results.toList = [.tmp 6] := by kernel_rfl
theorem ext72 : E.ext 72 = none := by kernel_rfl
theorem lv72_3 : E.lv 72 3 = [⟨0, []⟩, ⟨1, []⟩, ⟨2, []⟩, ⟨7, []⟩, ⟨8, []⟩] := by kernel_rfl
theorem res75 : Try.f75.results.toList = [.tmp 2] := by kernel_rfl
theorem ext75 : E.ext 75 = none := by kernel_rfl
theorem res76 : Try.f76.results.toList = [.tmp 2] := by kernel_rfl
theorem ext76 : E.ext 76 = some .clip := by kernel_rfl
theorem res77 : Try.f77.results.toList = [.tmp 2] := by kernel_rfl
theorem ext77 : E.ext 77 = some (.fn (collectF 79 2)) := by kernel_rfl
theorem res78 : Try.f78.results.toList = [] := by kernel_rfl
theorem ext78 : E.ext 78 = some (.rw false sortG) := by kernel_rfl
theorem res80 : Try.f80.results.toList = [.tmp 4] := by kernel_rfl
theorem ext80 : E.ext 80 = none := by kernel_rfl
theorem res81 : Try.f81.results.toList = [.tmp 2] := by kernel_rfl
theorem ext81 : E.ext 81 = none := by kernel_rfl
theorem res85 : Try.f85.results.toList = [.tmp 2] := by kernel_rfl
theorem ext85 : E.ext 85 = none := by kernel_rfl
theorem vwE (t : TypeId) : E.vw t = false := rfl
attribute [go_sem] vwE
attribute [go_sem] siz1 byt1 agg1 zer1 und2 siz2 byt2 agg2 zer2 und3 siz3 byt3 agg3 zer3 und4 siz4 byt4 agg4 zer4 und5 siz5 byt5 agg5 zer5 und6 siz6 byt6 agg6 zer6 und9 siz9 byt9 agg9 zer9 siz22 byt22 agg22 zer22 fie22_0 fie22_1
attribute [go_sem] fie22_2 fie22_3 pla22 und23 siz23 byt23 agg23 zer23 und24 siz24 byt24 agg24 zer24 und27 siz27 byt27 agg27 zer27 und32 siz32 byt32 agg32 zer32 und35 siz35 byt35 agg35 zer35 und41 siz41 byt41 agg41 zer41 und44 siz44 byt44 agg44 zer44 siz57 byt57
attribute [go_sem] agg57 zer57 fie57_0 fie57_1 pla57 und59 siz59 byt59 agg59 zer59 und63 siz63 byt63 agg63 zer63 und73 siz73 byt73 agg73 zer73 siz75 byt75 agg75 zer75 fie75_0 fie75_1 pla75 siz87 byt87 agg87 zer87 res3 ext3 res4 ext4 lv4_6 res5 ext5 lv5_3 lv5_7
attribute [go_sem] res6 ext6 lv6_7 lv6_19 lv6_22 lv6_29 res7 ext7 lv7_7 lv7_15 res8 ext8 res9 ext9 res10 ext10 res11 ext11 lv11_3 res12 ext12 res13 ext13 lv13_4 res14 ext14 lv14_3 res15 ext15 res16 ext16 res17 ext17 lv17_4 res18 ext18 res19 ext19 lv19_3 res20
attribute [go_sem] ext20 lv20_2 res21 ext21 lv21_10 res22 ext22 lv22_8 res23 ext23 res24 ext24 res25 ext25 res26 ext26 lv26_3 res27 ext27 lv27_3 lv27_8 res28 ext28 lv28_8 lv28_13 lv28_15 lv28_26 lv28_31 lv28_40 lv28_45 lv28_48 res29 ext29 lv29_8 lv29_12 lv29_17 lv29_29 lv29_35 lv29_40 res30
attribute [go_sem] ext30 lv30_3 res31 ext31 res32 ext32 res33 ext33 lv33_3 res34 ext34 res35 ext35 res36 ext36 res37 ext37 lv37_6 res38 ext38 res39 ext39 lv39_3 res40 ext40 lv40_2 lv40_4 res41 ext41 lv41_7 res42 ext42 lv42_4 lv42_10 res43 ext43 res44 ext44 lv44_2 res45
attribute [go_sem] ext45 lv45_2 res46 ext46 res47 ext47 lv47_4 lv47_7 lv47_12 res48 ext48 lv48_3 lv48_6 res49 ext49 res50 ext50 lv50_3 res51 ext51 res52 ext52 lv52_6 res53 ext53 lv53_2 res54 ext54 res56 ext56 res57 ext57 res58 ext58 lv58_3 res59 ext59 lv59_5 lv59_8 res60
attribute [go_sem] ext60 res61 ext61 res62 ext62 lv62_2 res63 ext63 res64 ext64 lv64_5 res65 ext65 lv65_5 res66 ext66 res67 ext67 res68 ext68 res69 ext69 lv69_3 res70 ext70 res71 ext71 res72 ext72 lv72_3 res75 ext75 res76 ext76 res77 ext77 res78 ext78 res80 ext80
attribute [go_sem] res81 ext81 res85 ext85
end Go.Proofs.Ytojaklgmojmjeaa.D
