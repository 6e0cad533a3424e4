/- What the evaluator asks of the seat's types and functions: rows for simp. -/
import Derived.Test.YtgbeijemcojnpaaDenT1
import Derived.Test.YtgbeijemcojnpaaDenK4
namespace Go.Proofs.Ytgbeijemcojnpaa.D
open Go Go.Den Go.Proofs
theorem siz1 : tSize E.P 1 = some 1 := by kernel_rfl
theorem byt1 : tBytes E.P 1 = some 8 := by kernel_rfl
theorem agg1 : tAgg E.P 1 = some false := by kernel_rfl
theorem zer1 : tZero E.P 1 = some [.nilf] := by kernel_rfl
theorem und2 : E.P.underlying 2 = some (.int .i64) := by kernel_rfl
theorem siz2 : tSize E.P 2 = some 1 := by kernel_rfl
theorem byt2 : tBytes E.P 2 = some 8 := by kernel_rfl
theorem agg2 : tAgg E.P 2 = some false := by kernel_rfl
theorem zer2 : tZero E.P 2 = some [.int .i64 (0)] := by kernel_rfl
theorem und3 : E.P.underlying 3 = some (.int .i64) := by kernel_rfl
theorem siz3 : tSize E.P 3 = some 1 := by kernel_rfl
theorem byt3 : tBytes E.P 3 = some 8 := by kernel_rfl
theorem agg3 : tAgg E.P 3 = some false := by kernel_rfl
theorem zer3 : tZero E.P 3 = some [.int .i64 (0)] := by kernel_rfl
theorem und4 : E.P.underlying 4 = some (.bool) := by kernel_rfl
theorem siz4 : tSize E.P 4 = some 1 := by kernel_rfl
theorem byt4 : tBytes E.P 4 = some 1 := by kernel_rfl
theorem agg4 : tAgg E.P 4 = some false := by kernel_rfl
theorem zer4 : tZero E.P 4 = some [.bool false] := by kernel_rfl
theorem und5 : E.P.underlying 5 = some (.int .u8) := by kernel_rfl
theorem siz5 : tSize E.P 5 = some 1 := by kernel_rfl
theorem byt5 : tBytes E.P 5 = some 1 := by kernel_rfl
theorem agg5 : tAgg E.P 5 = some false := by kernel_rfl
theorem zer5 : tZero E.P 5 = some [.int .u8 (0)] := by kernel_rfl
theorem und6 : E.P.underlying 6 = some (.int .u8) := by kernel_rfl
theorem siz6 : tSize E.P 6 = some 1 := by kernel_rfl
theorem byt6 : tBytes E.P 6 = some 1 := by kernel_rfl
theorem agg6 : tAgg E.P 6 = some false := by kernel_rfl
theorem zer6 : tZero E.P 6 = some [.int .u8 (0)] := by kernel_rfl
theorem siz8 : tSize E.P 8 = some 4 := by kernel_rfl
theorem byt8 : tBytes E.P 8 = some 24 := by kernel_rfl
theorem agg8 : tAgg E.P 8 = some true := by kernel_rfl
theorem zer8 : tZero E.P 8 = some [.int .i64 (0), .int .i64 (0), .bool false, .int .u8 (0)] := by kernel_rfl
theorem fie8_0 : tField E.P 8 0 = some (0, 2) := by kernel_rfl
theorem fie8_1 : tField E.P 8 1 = some (1, 3) := by kernel_rfl
theorem fie8_2 : tField E.P 8 2 = some (2, 4) := by kernel_rfl
theorem fie8_3 : tField E.P 8 3 = some (3, 6) := by kernel_rfl
theorem pla8 : tPlaces E.P 8 = some [(0, 1), (1, 1), (2, 1), (3, 1)] := by kernel_rfl
theorem und9 : E.P.underlying 9 = some (.string) := by kernel_rfl
theorem siz9 : tSize E.P 9 = some 1 := by kernel_rfl
theorem byt9 : tBytes E.P 9 = some 16 := by kernel_rfl
theorem agg9 : tAgg E.P 9 = some false := by kernel_rfl
theorem zer9 : tZero E.P 9 = some [.str []] := by kernel_rfl
theorem und22 : E.P.underlying 22 = some (.slice 39) := by kernel_rfl
theorem siz22 : tSize E.P 22 = some 1 := by kernel_rfl
theorem byt22 : tBytes E.P 22 = some 24 := by kernel_rfl
theorem agg22 : tAgg E.P 22 = some false := by kernel_rfl
theorem zer22 : tZero E.P 22 = some [.nils] := by kernel_rfl
theorem und23 : E.P.underlying 23 = some (.slice 3) := by kernel_rfl
theorem siz23 : tSize E.P 23 = some 1 := by kernel_rfl
theorem byt23 : tBytes E.P 23 = some 24 := by kernel_rfl
theorem agg23 : tAgg E.P 23 = some false := by kernel_rfl
theorem zer23 : tZero E.P 23 = some [.nils] := by kernel_rfl
theorem und25 : E.P.underlying 25 = some (.slice 54) := by kernel_rfl
theorem siz25 : tSize E.P 25 = some 1 := by kernel_rfl
theorem byt25 : tBytes E.P 25 = some 24 := by kernel_rfl
theorem agg25 : tAgg E.P 25 = some false := by kernel_rfl
theorem zer25 : tZero E.P 25 = some [.nils] := by kernel_rfl
theorem siz27 : tSize E.P 27 = some 1 := by kernel_rfl
theorem byt27 : tBytes E.P 27 = some 24 := by kernel_rfl
theorem agg27 : tAgg E.P 27 = some true := by kernel_rfl
theorem zer27 : tZero E.P 27 = some [.nils] := by kernel_rfl
theorem fie27_0 : tField E.P 27 0 = some (0, 25) := by kernel_rfl
theorem pla27 : tPlaces E.P 27 = some [(0, 1)] := by kernel_rfl
theorem und29 : E.P.underlying 29 = some (.slice 32) := by kernel_rfl
theorem siz29 : tSize E.P 29 = some 1 := by kernel_rfl
theorem byt29 : tBytes E.P 29 = some 24 := by kernel_rfl
theorem agg29 : tAgg E.P 29 = some false := by kernel_rfl
theorem zer29 : tZero E.P 29 = some [.nils] := by kernel_rfl
theorem und30 : E.P.underlying 30 = some (.slice 5) := by kernel_rfl
theorem siz30 : tSize E.P 30 = some 1 := by kernel_rfl
theorem byt30 : tBytes E.P 30 = some 24 := by kernel_rfl
theorem agg30 : tAgg E.P 30 = some false := by kernel_rfl
theorem zer30 : tZero E.P 30 = some [.nils] := by kernel_rfl
theorem siz32 : tSize E.P 32 = some 4 := by kernel_rfl
theorem byt32 : tBytes E.P 32 = some 48 := by kernel_rfl
theorem agg32 : tAgg E.P 32 = some true := by kernel_rfl
theorem zer32 : tZero E.P 32 = some [.bool false, .int .i64 (0), .int .i64 (0), .nils] := by kernel_rfl
theorem fie32_0 : tField E.P 32 0 = some (0, 4) := by kernel_rfl
theorem fie32_1 : tField E.P 32 1 = some (1, 3) := by kernel_rfl
theorem fie32_2 : tField E.P 32 2 = some (2, 2) := by kernel_rfl
theorem fie32_3 : tField E.P 32 3 = some (3, 30) := by kernel_rfl
theorem pla32 : tPlaces E.P 32 = some [(0, 1), (1, 1), (2, 1), (3, 1)] := by kernel_rfl
theorem und33 : E.P.underlying 33 = some (.slice 35) := by kernel_rfl
theorem siz33 : tSize E.P 33 = some 1 := by kernel_rfl
theorem byt33 : tBytes E.P 33 = some 24 := by kernel_rfl
theorem agg33 : tAgg E.P 33 = some false := by kernel_rfl
theorem zer33 : tZero E.P 33 = some [.nils] := by kernel_rfl
theorem siz35 : tSize E.P 35 = some 8 := by kernel_rfl
theorem byt35 : tBytes E.P 35 = some 96 := by kernel_rfl
theorem agg35 : tAgg E.P 35 = some true := by kernel_rfl
theorem zer35 : tZero E.P 35 = some [.int .i64 (0), .int .i64 (0), .int .i64 (0), .bool false, .int .i64 (0), .int .i64 (0), .nils, .nils] := by kernel_rfl
theorem fie35_0 : tField E.P 35 0 = some (0, 3) := by kernel_rfl
theorem fie35_1 : tField E.P 35 1 = some (1, 3) := by kernel_rfl
theorem fie35_2 : tField E.P 35 2 = some (2, 3) := by kernel_rfl
theorem fie35_3 : tField E.P 35 3 = some (3, 32) := by kernel_rfl
theorem fie35_4 : tField E.P 35 4 = some (7, 33) := by kernel_rfl
theorem pla35 : tPlaces E.P 35 = some [(0, 1), (1, 1), (2, 1), (3, 4), (7, 1)] := by kernel_rfl
theorem und36 : E.P.underlying 36 = some (.slice 45) := by kernel_rfl
theorem siz36 : tSize E.P 36 = some 1 := by kernel_rfl
theorem byt36 : tBytes E.P 36 = some 24 := by kernel_rfl
theorem agg36 : tAgg E.P 36 = some false := by kernel_rfl
theorem zer36 : tZero E.P 36 = some [.nils] := by kernel_rfl
theorem und37 : E.P.underlying 37 = some (.slice 43) := by kernel_rfl
theorem siz37 : tSize E.P 37 = some 1 := by kernel_rfl
theorem byt37 : tBytes E.P 37 = some 24 := by kernel_rfl
theorem agg37 : tAgg E.P 37 = some false := by kernel_rfl
theorem zer37 : tZero E.P 37 = some [.nils] := by kernel_rfl
theorem siz39 : tSize E.P 39 = some 14 := by kernel_rfl
theorem byt39 : tBytes E.P 39 = some 208 := by kernel_rfl
theorem agg39 : tAgg E.P 39 = some true := by kernel_rfl
theorem zer39 : tZero E.P 39 = some [.int .i64 (0), .nils, .int .i64 (0), .int .i64 (0), .int .i64 (0), .bool false, .int .i64 (0), .int .i64 (0), .nils, .nils, .nils, .nils, .int .i64 (0), .nils] := by kernel_rfl
theorem fie39_0 : tField E.P 39 0 = some (0, 3) := by kernel_rfl
theorem fie39_1 : tField E.P 39 1 = some (1, 29) := by kernel_rfl
theorem fie39_2 : tField E.P 39 2 = some (2, 35) := by kernel_rfl
theorem fie39_3 : tField E.P 39 3 = some (10, 36) := by kernel_rfl
theorem fie39_4 : tField E.P 39 4 = some (11, 23) := by kernel_rfl
theorem fie39_5 : tField E.P 39 5 = some (12, 3) := by kernel_rfl
theorem fie39_6 : tField E.P 39 6 = some (13, 37) := by kernel_rfl
theorem pla39 : tPlaces E.P 39 = some [(0, 1), (1, 1), (2, 8), (10, 1), (11, 1), (12, 1), (13, 1)] := by kernel_rfl
theorem und41 : E.P.underlying 41 = some (.int .u64) := by kernel_rfl
theorem siz41 : tSize E.P 41 = some 1 := by kernel_rfl
theorem byt41 : tBytes E.P 41 = some 8 := by kernel_rfl
theorem agg41 : tAgg E.P 41 = some false := by kernel_rfl
theorem zer41 : tZero E.P 41 = some [.int .u64 (0)] := by kernel_rfl
theorem siz43 : tSize E.P 43 = some 2 := by kernel_rfl
theorem byt43 : tBytes E.P 43 = some 16 := by kernel_rfl
theorem agg43 : tAgg E.P 43 = some true := by kernel_rfl
theorem zer43 : tZero E.P 43 = some [.int .i64 (0), .int .i64 (0)] := by kernel_rfl
theorem ins43 : intStruct E.P 43 = some 2 := by kernel_rfl
theorem fie43_0 : tField E.P 43 0 = some (0, 3) := by kernel_rfl
theorem fie43_1 : tField E.P 43 1 = some (1, 3) := by kernel_rfl
theorem pla43 : tPlaces E.P 43 = some [(0, 1), (1, 1)] := by kernel_rfl
theorem siz45 : tSize E.P 45 = some 6 := by kernel_rfl
theorem byt45 : tBytes E.P 45 = some 64 := by kernel_rfl
theorem agg45 : tAgg E.P 45 = some true := by kernel_rfl
theorem zer45 : tZero E.P 45 = some [.int .i64 (0), .bool false, .bool false, .int .i64 (0), .int .i64 (0), .nils] := by kernel_rfl
theorem fie45_0 : tField E.P 45 0 = some (0, 3) := by kernel_rfl
theorem fie45_1 : tField E.P 45 1 = some (1, 4) := by kernel_rfl
theorem fie45_2 : tField E.P 45 2 = some (2, 32) := by kernel_rfl
theorem pla45 : tPlaces E.P 45 = some [(0, 1), (1, 1), (2, 4)] := by kernel_rfl
theorem siz54 : tSize E.P 54 = some 3 := by kernel_rfl
theorem byt54 : tBytes E.P 54 = some 32 := by kernel_rfl
theorem agg54 : tAgg E.P 54 = some true := by kernel_rfl
theorem zer54 : tZero E.P 54 = some [.str [], .int .i64 (0), .bool false] := by kernel_rfl
theorem fie54_0 : tField E.P 54 0 = some (0, 9) := by kernel_rfl
theorem fie54_1 : tField E.P 54 1 = some (1, 3) := by kernel_rfl
theorem fie54_2 : tField E.P 54 2 = some (2, 4) := by kernel_rfl
theorem pla54 : tPlaces E.P 54 = some [(0, 1), (1, 1), (2, 1)] := by kernel_rfl
theorem und55 : E.P.underlying 55 = some (.slice 9) := by kernel_rfl
theorem siz55 : tSize E.P 55 = some 1 := by kernel_rfl
theorem byt55 : tBytes E.P 55 = some 24 := by kernel_rfl
theorem agg55 : tAgg E.P 55 = some false := by kernel_rfl
theorem zer55 : tZero E.P 55 = some [.nils] := by kernel_rfl
theorem siz64 : tSize E.P 64 = some 1 := by kernel_rfl
theorem byt64 : tBytes E.P 64 = some 8 := by kernel_rfl
theorem agg64 : tAgg E.P 64 = some false := by kernel_rfl
theorem zer64 : tZero E.P 64 = some [.nilf] := by kernel_rfl
theorem siz67 : tSize E.P 67 = some 1 := by kernel_rfl
theorem byt67 : tBytes E.P 67 = some 8 := by kernel_rfl
theorem agg67 : tAgg E.P 67 = some false := by kernel_rfl
theorem zer67 : tZero E.P 67 = some [.nilf] := by kernel_rfl
theorem siz71 : tSize E.P 71 = some 1 := by kernel_rfl
theorem byt71 : tBytes E.P 71 = some 8 := by kernel_rfl
theorem agg71 : tAgg E.P 71 = some false := by kernel_rfl
theorem zer71 : tZero E.P 71 = some [.nilf] := by kernel_rfl
theorem und76 : E.P.underlying 76 = some (.pointer 3) := by kernel_rfl
theorem siz76 : tSize E.P 76 = some 1 := by kernel_rfl
theorem byt76 : tBytes E.P 76 = some 8 := by kernel_rfl
theorem agg76 : tAgg E.P 76 = some false := by kernel_rfl
theorem zer76 : tZero E.P 76 = some [.nilp] := by kernel_rfl
theorem siz78 : tSize E.P 78 = some 1 := by kernel_rfl
theorem byt78 : tBytes E.P 78 = some 8 := by kernel_rfl
theorem agg78 : tAgg E.P 78 = some false := by kernel_rfl
theorem zer78 : tZero E.P 78 = some [.nilf] := by kernel_rfl
theorem siz84 : tSize E.P 84 = some 1 := by kernel_rfl
theorem byt84 : tBytes E.P 84 = some 8 := by kernel_rfl
theorem agg84 : tAgg E.P 84 = some false := by kernel_rfl
theorem zer84 : tZero E.P 84 = some [.nilf] := by kernel_rfl
theorem res3 : Try.f3.results.toList = [.tmp 10] := by kernel_rfl
theorem ext3 : E.ext 3 = none := by kernel_rfl
theorem lv3_22 : E.lv 3 22 = [⟨0, []⟩, ⟨2, []⟩, ⟨3, []⟩, ⟨11, []⟩, ⟨12, []⟩, ⟨118, []⟩, ⟨119, []⟩, ⟨120, []⟩] := by kernel_rfl
theorem res4 : Try.f4.results.toList = [.tmp 0] := by kernel_rfl
theorem ext4 : E.ext 4 = none := by kernel_rfl
theorem res5 : Try.f5.results.toList = [.cell 2 27] := by kernel_rfl
theorem ext5 : E.ext 5 = none := by kernel_rfl
theorem lv5_4 : E.lv 5 4 = [⟨0, []⟩, ⟨2, []⟩, ⟨3, []⟩, ⟨4, []⟩, ⟨5, []⟩] := by kernel_rfl
theorem res6 : Try.f6.results.toList = [.cell 6 39] := by kernel_rfl
theorem ext6 : E.ext 6 = none := by kernel_rfl
theorem res7 : Try.f7.results.toList = [.tmp 2] := by kernel_rfl
theorem ext7 : E.ext 7 = none := by kernel_rfl
theorem lv7_3 : E.lv 7 3 = [⟨3, []⟩, ⟨7, []⟩, ⟨8, []⟩, ⟨9, []⟩] := by kernel_rfl
theorem res8 : Try.f8.results.toList = [.tmp 4] := by kernel_rfl
theorem ext8 : E.ext 8 = none := by kernel_rfl
theorem res9 : Try.f9.results.toList = [.tmp 4] := by kernel_rfl
theorem ext9 : E.ext 9 = none := by kernel_rfl
theorem lv9_11 : E.lv 9 11 = [⟨2, []⟩, ⟨3, []⟩, ⟨5, []⟩, ⟨6, []⟩] := by kernel_rfl
theorem res10 : Try.f10.results.toList = [.tmp 6] := by kernel_rfl
theorem ext10 : E.ext 10 = none := by kernel_rfl
theorem lv10_3 : E.lv 10 3 = [⟨1, []⟩, ⟨2, []⟩, ⟨3, []⟩, ⟨7, [(0, 39, 14)]⟩, ⟨8, []⟩] := by kernel_rfl
theorem res11 : Try.f11.results.toList = [.tmp 4] := by kernel_rfl
theorem ext11 : E.ext 11 = none := by kernel_rfl
theorem res12 : Try.f12.results.toList = [.tmp 4] := by kernel_rfl
theorem ext12 : E.ext 12 = none := by kernel_rfl
theorem lv12_2 : E.lv 12 2 = [⟨1, []⟩, ⟨2, []⟩, ⟨5, []⟩] := by kernel_rfl
theorem res13 : Try.f13.results.toList = [.tmp 2] := by kernel_rfl
theorem ext13 : E.ext 13 = none := by kernel_rfl
theorem lv13_2 : E.lv 13 2 = [⟨1, []⟩, ⟨3, []⟩] := by kernel_rfl
theorem lv13_8 : E.lv 13 8 = [⟨1, []⟩, ⟨3, []⟩, ⟨4, []⟩, ⟨5, []⟩] := by kernel_rfl
theorem res14 : Try.f14.results.toList = [.cell 8 35] := by kernel_rfl
theorem ext14 : E.ext 14 = none := by kernel_rfl
theorem lv14_17 : E.lv 14 17 = [⟨1, []⟩, ⟨2, []⟩, ⟨3, []⟩, ⟨4, []⟩, ⟨8, []⟩, ⟨9, []⟩, ⟨12, []⟩, ⟨13, []⟩] := by kernel_rfl
theorem res15 : Try.f15.results.toList = [.tmp 4] := by kernel_rfl
theorem ext15 : E.ext 15 = none := by kernel_rfl
theorem lv15_3 : E.lv 15 3 = [⟨1, []⟩, ⟨5, [(0, 32, 4)]⟩, ⟨9, []⟩, ⟨10, []⟩, ⟨11, []⟩] := by kernel_rfl
theorem res16 : Try.f16.results.toList = [.cell 4 32] := by kernel_rfl
theorem ext16 : E.ext 16 = none := by kernel_rfl
theorem res17 : Try.f17.results.toList = [.tmp 12] := by kernel_rfl
theorem ext17 : E.ext 17 = none := by kernel_rfl
theorem res18 : Try.f18.results.toList = [.tmp 4] := by kernel_rfl
theorem ext18 : E.ext 18 = none := by kernel_rfl
theorem lv18_4 : E.lv 18 4 = [⟨1, []⟩, ⟨14, []⟩, ⟨15, []⟩, ⟨16, []⟩] := by kernel_rfl
theorem res19 : Try.f19.results.toList = [.tmp 4] := by kernel_rfl
theorem ext19 : E.ext 19 = none := by kernel_rfl
theorem res20 : Try.f20.results.toList = [.tmp 4] := by kernel_rfl
theorem ext20 : E.ext 20 = none := by kernel_rfl
theorem lv20_2 : E.lv 20 2 = [⟨1, []⟩, ⟨2, []⟩, ⟨8, []⟩, ⟨9, []⟩, ⟨10, []⟩] := by kernel_rfl
theorem res21 : Try.f21.results.toList = [.tmp 3] := by kernel_rfl
theorem ext21 : E.ext 21 = none := by kernel_rfl
theorem res22 : Try.f22.results.toList = [.tmp 4] := by kernel_rfl
theorem ext22 : E.ext 22 = none := by kernel_rfl
theorem res23 : Try.f23.results.toList = [.tmp 4] := by kernel_rfl
theorem ext23 : E.ext 23 = none := by kernel_rfl
theorem res24 : Try.f24.results.toList = [.tmp 3] := by kernel_rfl
theorem ext24 : E.ext 24 = none := by kernel_rfl
theorem res25 : Try.f25.results.toList = [.tmp 4] := by kernel_rfl
theorem ext25 : E.ext 25 = none := by kernel_rfl
theorem res26 : Try.f26.results.toList = [.tmp 4] := by kernel_rfl
theorem ext26 : E.ext 26 = none := by kernel_rfl
theorem res27 : Try.f27.results.toList = [.tmp 4] := by kernel_rfl
theorem ext27 : E.ext 27 = none := by kernel_rfl
theorem res28 : Try.f28.results.toList = [.tmp 12] := by kernel_rfl
theorem ext28 : E.ext 28 = none := by kernel_rfl
theorem res29 : Try.f29.results.toList = [.tmp 4] := by kernel_rfl
theorem ext29 : E.ext 29 = none := by kernel_rfl
theorem lv29_4 : E.lv 29 4 = [⟨1, []⟩, ⟨2, []⟩, ⟨5, []⟩] := by kernel_rfl
theorem res30 : Try.f30.results.toList = [.tmp 4] := by kernel_rfl
theorem ext30 : E.ext 30 = none := by kernel_rfl
theorem lv30_2 : E.lv 30 2 = [⟨1, []⟩, ⟨2, []⟩, ⟨5, []⟩] := by kernel_rfl
theorem lv30_8 : E.lv 30 8 = [⟨1, []⟩, ⟨2, []⟩, ⟨5, []⟩, ⟨6, []⟩, ⟨7, []⟩] := by kernel_rfl
theorem res31 : Try.f31.results.toList = [.tmp 4] := by kernel_rfl
theorem ext31 : E.ext 31 = none := by kernel_rfl
theorem res32 : Try.f32.results.toList = [.tmp 4] := by kernel_rfl
theorem ext32 : E.ext 32 = none := by kernel_rfl
theorem lv32_2 : E.lv 32 2 = [⟨1, []⟩, ⟨2, []⟩, ⟨5, []⟩] := by kernel_rfl
theorem res33 : Try.f33.results.toList = [.tmp 4] := by kernel_rfl
theorem ext33 : E.ext 33 = none := by kernel_rfl
theorem res34 : Try.f34.results.toList = [.tmp 3] := by kernel_rfl
theorem ext34 : E.ext 34 = none := by kernel_rfl
theorem res35 : Try.f35.results.toList = [.tmp 2] := by kernel_rfl
theorem ext35 : E.ext 35 = none := by kernel_rfl
theorem lv35_2 : E.lv 35 2 = [⟨0, []⟩, ⟨3, []⟩] := by kernel_rfl
theorem res36 : Try.f36.results.toList = [.tmp 2] := by kernel_rfl
theorem ext36 : E.ext 36 = none := by kernel_rfl
theorem res37 : Try.f37.results.toList = [.tmp 4] := by kernel_rfl
theorem ext37 : E.ext 37 = none := by kernel_rfl
theorem res38 : Try.f38.results.toList = [.tmp 8] := by kernel_rfl
theorem ext38 : E.ext 38 = none := by kernel_rfl
theorem lv38_5 : E.lv 38 5 = [⟨2, []⟩, ⟨3, []⟩, ⟨4, []⟩, ⟨31, []⟩, ⟨32, []⟩, ⟨33, []⟩] := by kernel_rfl
theorem res39 : Try.f39.results.toList = [.tmp 4] := by kernel_rfl
theorem ext39 : E.ext 39 = none := by kernel_rfl
theorem res40 : Try.f40.results.toList = [.tmp 3] := by kernel_rfl
theorem ext40 : E.ext 40 = none := by kernel_rfl
theorem res41 : Try.f41.results.toList = [.tmp 4] := by kernel_rfl
theorem ext41 : E.ext 41 = none := by kernel_rfl
theorem res42 : Try.f42.results.toList = [.tmp 4] := by kernel_rfl
theorem ext42 : E.ext 42 = none := by kernel_rfl
theorem lv42_2 : E.lv 42 2 = [⟨0, []⟩, ⟨1, []⟩, ⟨7, []⟩, ⟨8, []⟩] := by kernel_rfl
theorem res43 : Try.f43.results.toList = [.tmp 4] := by kernel_rfl
theorem ext43 : E.ext 43 = none := by kernel_rfl
theorem lv43_2 : E.lv 43 2 = [⟨0, []⟩, ⟨1, []⟩, ⟨7, []⟩, ⟨8, []⟩] := by kernel_rfl
theorem res44 : Try.f44.results.toList = [.tmp 4, .tmp 5] := by kernel_rfl
theorem ext44 : E.ext 44 = none := by kernel_rfl
theorem lv44_5 : E.lv 44 5 = [⟨1, []⟩, ⟨2, []⟩, ⟨6, []⟩, ⟨7, []⟩, ⟨8, []⟩] := by kernel_rfl
theorem res45 : Try.f45.results.toList = [.tmp 4] := by kernel_rfl
theorem ext45 : E.ext 45 = none := by kernel_rfl
theorem lv45_16 : E.lv 45 16 = [⟨2, []⟩, ⟨3, []⟩, ⟨7, []⟩] := by kernel_rfl
theorem res46 : Try.f46.results.toList = [.tmp 4] := by kernel_rfl
theorem ext46 : E.ext 46 = none := by kernel_rfl
theorem lv46_4 : E.lv 46 4 = [⟨2, []⟩, ⟨3, []⟩, ⟨5, []⟩] := by kernel_rfl
theorem res47 : Try.f47.results.toList = [.tmp 4] := by kernel_rfl
theorem ext47 : E.ext 47 = none := by kernel_rfl
theorem res48 : Try.f48.results.toList = [.tmp 4] := by kernel_rfl
theorem ext48 : E.ext 48 = none := by kernel_rfl
theorem lv48_2 : E.lv 48 2 = [⟨0, []⟩, ⟨1, []⟩, ⟨7, []⟩, ⟨8, []⟩] := by kernel_rfl
theorem res49 : Try.f49.results.toList = [.tmp 4] := by kernel_rfl
theorem ext49 : E.ext 49 = none := by kernel_rfl
theorem res50 : Try.f50.results.toList = [.tmp 2] := by kernel_rfl
theorem ext50 : E.ext 50 = none := by kernel_rfl
theorem res51 : Try.f51.results.toList = [.tmp 4] := by kernel_rfl
theorem ext51 : E.ext 51 = none := by kernel_rfl
theorem res52 : Try.f52.results.toList = [.tmp 4] := by kernel_rfl
theorem ext52 : E.ext 52 = none := by kernel_rfl
theorem lv52_2 : E.lv 52 2 = [⟨0, []⟩, ⟨1, []⟩, ⟨7, []⟩, ⟨8, []⟩] := by kernel_rfl
theorem res53 : Try.f53.results.toList = [.tmp 2] := by kernel_rfl
theorem ext53 : E.ext 53 = none := by kernel_rfl
theorem res54 : Try.f54.results.toList = [.tmp 4] := by kernel_rfl
theorem ext54 : E.ext 54 = none := by kernel_rfl
theorem res55 : Try.f55.results.toList = [.tmp 4] := by kernel_rfl
theorem ext55 : E.ext 55 = none := by kernel_rfl
theorem res56 : Try.f56.results.toList = [.tmp 6] := by kernel_rfl
theorem ext56 : E.ext 56 = none := by kernel_rfl
theorem lv56_4 : E.lv 56 4 = [⟨1, []⟩, ⟨2, []⟩, ⟨15, []⟩, ⟨16, []⟩, ⟨17, []⟩] := by kernel_rfl
theorem res57 : Try.f57.results.toList = [.tmp 2] := by kernel_rfl
theorem ext57 : E.ext 57 = none := by kernel_rfl
theorem res58 : Try.f58.results.toList = [.tmp 2] := by kernel_rfl
theorem ext58 : E.ext 58 = none := by kernel_rfl
theorem res59 : Try.f59.results.toList = [.tmp 4] := by kernel_rfl
theorem ext59 : E.ext 59 = none := by kernel_rfl
attribute [go_sem] siz1 byt1 agg1 zer1 und2 siz2 byt2 agg2 zer2 und3 siz3 byt3 agg3 zer3 und4 siz4 byt4 agg4 zer4 und5 siz5 byt5 agg5 zer5 und6 siz6 byt6 agg6 zer6 siz8 byt8 agg8 zer8 fie8_0 fie8_1 fie8_2 fie8_3 pla8 und9 siz9
attribute [go_sem] byt9 agg9 zer9 und22 siz22 byt22 agg22 zer22 und23 siz23 byt23 agg23 zer23 und25 siz25 byt25 agg25 zer25 siz27 byt27 agg27 zer27 fie27_0 pla27 und29 siz29 byt29 agg29 zer29 und30 siz30 byt30 agg30 zer30 siz32 byt32 agg32 zer32 fie32_0 fie32_1
attribute [go_sem] fie32_2 fie32_3 pla32 und33 siz33 byt33 agg33 zer33 siz35 byt35 agg35 zer35 fie35_0 fie35_1 fie35_2 fie35_3 fie35_4 pla35 und36 siz36 byt36 agg36 zer36 und37 siz37 byt37 agg37 zer37 siz39 byt39 agg39 zer39 fie39_0 fie39_1 fie39_2 fie39_3 fie39_4 fie39_5 fie39_6 pla39
attribute [go_sem] und41 siz41 byt41 agg41 zer41 siz43 byt43 agg43 zer43 ins43 fie43_0 fie43_1 pla43 siz45 byt45 agg45 zer45 fie45_0 fie45_1 fie45_2 pla45 siz54 byt54 agg54 zer54 fie54_0 fie54_1 fie54_2 pla54 und55 siz55 byt55 agg55 zer55 siz64 byt64 agg64 zer64 siz67 byt67
attribute [go_sem] agg67 zer67 siz71 byt71 agg71 zer71 und76 siz76 byt76 agg76 zer76 siz78 byt78 agg78 zer78 siz84 byt84 agg84 zer84 res3 ext3 lv3_22 res4 ext4 res5 ext5 lv5_4 res6 ext6 res7 ext7 lv7_3 res8 ext8 res9 ext9 lv9_11 res10 ext10 lv10_3
attribute [go_sem] res11 ext11 res12 ext12 lv12_2 res13 ext13 lv13_2 lv13_8 res14 ext14 lv14_17 res15 ext15 lv15_3 res16 ext16 res17 ext17 res18 ext18 lv18_4 res19 ext19 res20 ext20 lv20_2 res21 ext21 res22 ext22 res23 ext23 res24 ext24 res25 ext25 res26 ext26 res27
attribute [go_sem] ext27 res28 ext28 res29 ext29 lv29_4 res30 ext30 lv30_2 lv30_8 res31 ext31 res32 ext32 lv32_2 res33 ext33 res34 ext34 res35 ext35 lv35_2 res36 ext36 res37 ext37 res38 ext38 lv38_5 res39 ext39 res40 ext40 res41 ext41 res42 ext42 lv42_2 res43 ext43
attribute [go_sem] lv43_2 res44 ext44 lv44_5 res45 ext45 lv45_16 res46 ext46 lv46_4 res47 ext47 res48 ext48 lv48_2 res49 ext49 res50 ext50 res51 ext51 res52 ext52 lv52_2 res53 ext53 res54 ext54 res55 ext55 res56 ext56 lv56_4 res57 ext57 res58 ext58 res59 ext59
end Go.Proofs.Ytgbeijemcojnpaa.D
