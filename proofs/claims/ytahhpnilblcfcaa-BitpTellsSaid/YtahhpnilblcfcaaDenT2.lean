/- What the evaluator asks of the seat's types and functions: rows for simp. -/
import Derived.Test.YtahhpnilblcfcaaDenT1
import Derived.Test.YtahhpnilblcfcaaDenZh
namespace Go.Proofs.Ytahhpnilblcfcaa.D
open Go Go.Den Go.Proofs
theorem siz1 : tSize E.P 1 = some 1 := by kernel_rfl
theorem byt1 : tBytes E.P 1 = some 8 := by kernel_rfl
theorem agg1 : tAgg E.P 1 = some false := by kernel_rfl
theorem zer1 : tZero E.P 1 = some [.nilf] := by kernel_rfl
theorem und2 : E.P.underlying 2 = some (.int .i64) := by kernel_rfl
theorem siz2 : tSize E.P 2 = some 1 := by kernel_rfl
theorem byt2 : tBytes E.P 2 = some 8 := by kernel_rfl
theorem agg2 : tAgg E.P 2 = some false := by kernel_rfl
theorem zer2 : tZero E.P 2 = some [.int .i64 (0)] := by kernel_rfl
theorem und3 : E.P.underlying 3 = some (.int .i64) := by kernel_rfl
theorem siz3 : tSize E.P 3 = some 1 := by kernel_rfl
theorem byt3 : tBytes E.P 3 = some 8 := by kernel_rfl
theorem agg3 : tAgg E.P 3 = some false := by kernel_rfl
theorem zer3 : tZero E.P 3 = some [.int .i64 (0)] := by kernel_rfl
theorem und4 : E.P.underlying 4 = some (.bool) := by kernel_rfl
theorem siz4 : tSize E.P 4 = some 1 := by kernel_rfl
theorem byt4 : tBytes E.P 4 = some 1 := by kernel_rfl
theorem agg4 : tAgg E.P 4 = some false := by kernel_rfl
theorem zer4 : tZero E.P 4 = some [.bool false] := by kernel_rfl
theorem und5 : E.P.underlying 5 = some (.int .u8) := by kernel_rfl
theorem siz5 : tSize E.P 5 = some 1 := by kernel_rfl
theorem byt5 : tBytes E.P 5 = some 1 := by kernel_rfl
theorem agg5 : tAgg E.P 5 = some false := by kernel_rfl
theorem zer5 : tZero E.P 5 = some [.int .u8 (0)] := by kernel_rfl
theorem und9 : E.P.underlying 9 = some (.string) := by kernel_rfl
theorem siz9 : tSize E.P 9 = some 1 := by kernel_rfl
theorem byt9 : tBytes E.P 9 = some 16 := by kernel_rfl
theorem agg9 : tAgg E.P 9 = some false := by kernel_rfl
theorem zer9 : tZero E.P 9 = some [.str []] := by kernel_rfl
theorem und12 : E.P.underlying 12 = some (.int .u64) := by kernel_rfl
theorem siz12 : tSize E.P 12 = some 1 := by kernel_rfl
theorem byt12 : tBytes E.P 12 = some 8 := by kernel_rfl
theorem agg12 : tAgg E.P 12 = some false := by kernel_rfl
theorem zer12 : tZero E.P 12 = some [.int .u64 (0)] := by kernel_rfl
theorem und22 : E.P.underlying 22 = some (.int .u64) := by kernel_rfl
theorem siz22 : tSize E.P 22 = some 1 := by kernel_rfl
theorem byt22 : tBytes E.P 22 = some 8 := by kernel_rfl
theorem agg22 : tAgg E.P 22 = some false := by kernel_rfl
theorem zer22 : tZero E.P 22 = some [.int .u64 (0)] := by kernel_rfl
theorem siz23 : tSize E.P 23 = some 3 := by kernel_rfl
theorem byt23 : tBytes E.P 23 = some 32 := by kernel_rfl
theorem agg23 : tAgg E.P 23 = some true := by kernel_rfl
theorem zer23 : tZero E.P 23 = some [.str [], .int .u64 (0), .bool false] := by kernel_rfl
theorem fie23_0 : tField E.P 23 0 = some (0, 9) := by kernel_rfl
theorem fie23_1 : tField E.P 23 1 = some (1, 22) := by kernel_rfl
theorem fie23_2 : tField E.P 23 2 = some (2, 4) := by kernel_rfl
theorem pla23 : tPlaces E.P 23 = some [(0, 1), (1, 1), (2, 1)] := by kernel_rfl
theorem und24 : E.P.underlying 24 = some (.slice 23) := by kernel_rfl
theorem siz24 : tSize E.P 24 = some 1 := by kernel_rfl
theorem byt24 : tBytes E.P 24 = some 24 := by kernel_rfl
theorem agg24 : tAgg E.P 24 = some false := by kernel_rfl
theorem zer24 : tZero E.P 24 = some [.nils] := by kernel_rfl
theorem und25 : E.P.underlying 25 = some (.pointer 59) := by kernel_rfl
theorem siz25 : tSize E.P 25 = some 1 := by kernel_rfl
theorem byt25 : tBytes E.P 25 = some 8 := by kernel_rfl
theorem agg25 : tAgg E.P 25 = some false := by kernel_rfl
theorem zer25 : tZero E.P 25 = some [.nilp] := by kernel_rfl
theorem und27 : E.P.underlying 27 = some (.slice 5) := by kernel_rfl
theorem siz27 : tSize E.P 27 = some 1 := by kernel_rfl
theorem byt27 : tBytes E.P 27 = some 24 := by kernel_rfl
theorem agg27 : tAgg E.P 27 = some false := by kernel_rfl
theorem zer27 : tZero E.P 27 = some [.nils] := by kernel_rfl
theorem und36 : E.P.underlying 36 = some (.slice 22) := by kernel_rfl
theorem siz36 : tSize E.P 36 = some 1 := by kernel_rfl
theorem byt36 : tBytes E.P 36 = some 24 := by kernel_rfl
theorem agg36 : tAgg E.P 36 = some false := by kernel_rfl
theorem zer36 : tZero E.P 36 = some [.nils] := by kernel_rfl
theorem und38 : E.P.underlying 38 = some (.slice 27) := by kernel_rfl
theorem siz38 : tSize E.P 38 = some 1 := by kernel_rfl
theorem byt38 : tBytes E.P 38 = some 24 := by kernel_rfl
theorem agg38 : tAgg E.P 38 = some false := by kernel_rfl
theorem zer38 : tZero E.P 38 = some [.nils] := by kernel_rfl
theorem siz41 : tSize E.P 41 = some 3 := by kernel_rfl
theorem byt41 : tBytes E.P 41 = some 48 := by kernel_rfl
theorem agg41 : tAgg E.P 41 = some true := by kernel_rfl
theorem zer41 : tZero E.P 41 = some [.int .i64 (0), .nils, .str []] := by kernel_rfl
theorem fie41_0 : tField E.P 41 0 = some (0, 3) := by kernel_rfl
theorem fie41_1 : tField E.P 41 1 = some (1, 36) := by kernel_rfl
theorem fie41_2 : tField E.P 41 2 = some (2, 9) := by kernel_rfl
theorem pla41 : tPlaces E.P 41 = some [(0, 1), (1, 1), (2, 1)] := by kernel_rfl
theorem und42 : E.P.underlying 42 = some (.slice 41) := by kernel_rfl
theorem siz42 : tSize E.P 42 = some 1 := by kernel_rfl
theorem byt42 : tBytes E.P 42 = some 24 := by kernel_rfl
theorem agg42 : tAgg E.P 42 = some false := by kernel_rfl
theorem zer42 : tZero E.P 42 = some [.nils] := by kernel_rfl
theorem und45 : E.P.underlying 45 = some (.int .u64) := by kernel_rfl
theorem siz45 : tSize E.P 45 = some 1 := by kernel_rfl
theorem byt45 : tBytes E.P 45 = some 8 := by kernel_rfl
theorem agg45 : tAgg E.P 45 = some false := by kernel_rfl
theorem zer45 : tZero E.P 45 = some [.int .u64 (0)] := by kernel_rfl
theorem und54 : E.P.underlying 54 = some (.slice 3) := by kernel_rfl
theorem siz54 : tSize E.P 54 = some 1 := by kernel_rfl
theorem byt54 : tBytes E.P 54 = some 24 := by kernel_rfl
theorem agg54 : tAgg E.P 54 = some false := by kernel_rfl
theorem zer54 : tZero E.P 54 = some [.nils] := by kernel_rfl
theorem siz59 : tSize E.P 59 = some 2 := by kernel_rfl
theorem byt59 : tBytes E.P 59 = some 32 := by kernel_rfl
theorem agg59 : tAgg E.P 59 = some true := by kernel_rfl
theorem zer59 : tZero E.P 59 = some [.nils, .bool false] := by kernel_rfl
theorem fie59_0 : tField E.P 59 0 = some (0, 27) := by kernel_rfl
theorem fie59_1 : tField E.P 59 1 = some (1, 4) := by kernel_rfl
theorem pla59 : tPlaces E.P 59 = some [(0, 1), (1, 1)] := by kernel_rfl
theorem res3 : Try.f3.results.toList = [.tmp 2] := by kernel_rfl
theorem ext3 : E.ext 3 = none := by kernel_rfl
theorem res4 : Try.f4.results.toList = [.tmp 2] := by kernel_rfl
theorem ext4 : E.ext 4 = none := by kernel_rfl
theorem res5 : Try.f5.results.toList = [.tmp 6] := by kernel_rfl
theorem ext5 : E.ext 5 = none := by kernel_rfl
theorem lv5_5 : E.lv 5 5 = [⟨0, []⟩, ⟨1, []⟩, ⟨2, []⟩, ⟨7, [(0, 5, 1)]⟩, ⟨27, []⟩, ⟨28, []⟩, ⟨29, []⟩] := by kernel_rfl
theorem lv5_13 : E.lv 5 13 = [⟨0, []⟩, ⟨1, []⟩, ⟨7, []⟩, ⟨56, []⟩, ⟨57, []⟩, ⟨58, []⟩] := by kernel_rfl
theorem lv5_19 : E.lv 5 19 = [⟨0, []⟩, ⟨1, []⟩, ⟨7, []⟩, ⟨11, []⟩, ⟨12, []⟩, ⟨56, []⟩, ⟨57, []⟩, ⟨58, []⟩, ⟨66, []⟩, ⟨67, []⟩, ⟨68, []⟩] := by kernel_rfl
theorem res6 : Try.f6.results.toList = [.tmp 2] := by kernel_rfl
theorem ext6 : E.ext 6 = none := by kernel_rfl
theorem res7 : Try.f7.results.toList = [.tmp 2] := by kernel_rfl
theorem ext7 : E.ext 7 = none := by kernel_rfl
theorem res8 : Try.f8.results.toList = [.tmp 8] := by kernel_rfl
theorem ext8 : E.ext 8 = none := by kernel_rfl
theorem lv8_5 : E.lv 8 5 = [⟨0, []⟩, ⟨1, []⟩, ⟨2, []⟩, ⟨3, []⟩, ⟨9, []⟩, ⟨10, []⟩, ⟨11, []⟩, ⟨12, []⟩, ⟨42, []⟩, ⟨43, []⟩] := by kernel_rfl
theorem lv8_12 : E.lv 8 12 = [⟨0, []⟩, ⟨1, []⟩, ⟨2, []⟩, ⟨3, []⟩, ⟨9, []⟩, ⟨10, []⟩, ⟨12, []⟩, ⟨14, []⟩, ⟨15, []⟩, ⟨64, []⟩, ⟨65, []⟩] := by kernel_rfl
theorem res9 : Try.f9.results.toList = [.tmp 14] := by kernel_rfl
theorem ext9 : E.ext 9 = none := by kernel_rfl
theorem lv9_4 : E.lv 9 4 = [⟨0, []⟩, ⟨1, []⟩, ⟨2, []⟩, ⟨3, []⟩, ⟨4, []⟩, ⟨5, []⟩, ⟨6, []⟩, ⟨15, []⟩] := by kernel_rfl
theorem lv9_15 : E.lv 9 15 = [⟨0, []⟩, ⟨1, []⟩, ⟨2, []⟩, ⟨3, []⟩, ⟨4, []⟩, ⟨5, []⟩, ⟨6, []⟩, ⟨15, []⟩, ⟨85, []⟩, ⟨86, []⟩, ⟨87, []⟩] := by kernel_rfl
theorem lv9_18 : E.lv 9 18 = [⟨0, []⟩, ⟨1, []⟩, ⟨2, []⟩, ⟨3, []⟩, ⟨4, []⟩, ⟨5, []⟩, ⟨6, []⟩, ⟨15, []⟩, ⟨20, []⟩, ⟨85, []⟩, ⟨86, []⟩, ⟨87, []⟩, ⟨96, []⟩, ⟨97, []⟩, ⟨98, []⟩] := by kernel_rfl
theorem lv9_26 : E.lv 9 26 = [⟨0, []⟩, ⟨1, []⟩, ⟨2, []⟩, ⟨3, []⟩, ⟨4, []⟩, ⟨5, []⟩, ⟨6, []⟩, ⟨15, []⟩, ⟨20, []⟩, ⟨85, []⟩, ⟨86, []⟩, ⟨87, []⟩, ⟨132, []⟩, ⟨133, []⟩, ⟨134, []⟩] := by kernel_rfl
theorem lv9_36 : E.lv 9 36 = [⟨164, []⟩, ⟨165, []⟩, ⟨166, []⟩] := by kernel_rfl
theorem res10 : Try.f10.results.toList = [.tmp 4] := by kernel_rfl
theorem ext10 : E.ext 10 = none := by kernel_rfl
theorem lv10_5 : E.lv 10 5 = [⟨0, []⟩, ⟨1, []⟩, ⟨5, []⟩, ⟨18, []⟩, ⟨19, []⟩, ⟨20, []⟩] := by kernel_rfl
theorem lv10_16 : E.lv 10 16 = [⟨0, []⟩, ⟨5, []⟩, ⟨8, []⟩, ⟨64, []⟩, ⟨65, []⟩] := by kernel_rfl
theorem res11 : Try.f11.results.toList = [.tmp 2] := by kernel_rfl
theorem ext11 : E.ext 11 = none := by kernel_rfl
theorem res12 : Try.f12.results.toList = [.tmp 2] := by kernel_rfl
theorem ext12 : E.ext 12 = none := by kernel_rfl
theorem lv12_3 : E.lv 12 3 = [⟨0, []⟩, ⟨3, []⟩, ⟨9, []⟩, ⟨10, []⟩, ⟨11, []⟩] := by kernel_rfl
theorem res13 : Try.f13.results.toList = [.tmp 2] := by kernel_rfl
theorem ext13 : E.ext 13 = none := by kernel_rfl
theorem res14 : Try.f14.results.toList = [.tmp 2] := by kernel_rfl
theorem ext14 : E.ext 14 = none := by kernel_rfl
theorem res15 : Try.f15.results.toList = [.tmp 4] := by kernel_rfl
theorem ext15 : E.ext 15 = none := by kernel_rfl
theorem lv15_2 : E.lv 15 2 = [⟨1, []⟩, ⟨5, [(0, 5, 1)]⟩] := by kernel_rfl
theorem res16 : Try.f16.results.toList = [.tmp 0] := by kernel_rfl
theorem ext16 : E.ext 16 = none := by kernel_rfl
theorem res17 : Try.f17.results.toList = [.tmp 2] := by kernel_rfl
theorem ext17 : E.ext 17 = none := by kernel_rfl
theorem res18 : Try.f18.results.toList = [.tmp 2] := by kernel_rfl
theorem ext18 : E.ext 18 = none := by kernel_rfl
theorem res19 : Try.f19.results.toList = [.tmp 4] := by kernel_rfl
theorem ext19 : E.ext 19 = none := by kernel_rfl
theorem res20 : Try.f20.results.toList = [.tmp 4] := by kernel_rfl
theorem ext20 : E.ext 20 = none := by kernel_rfl
theorem res21 : Try.f21.results.toList = [.tmp 4] := by kernel_rfl
theorem ext21 : E.ext 21 = none := by kernel_rfl
theorem lv21_5 : E.lv 21 5 = [⟨0, []⟩, ⟨5, []⟩, ⟨6, []⟩, ⟨17, []⟩, ⟨18, []⟩, ⟨19, []⟩] := by kernel_rfl
theorem lv21_8 : E.lv 21 8 = [⟨0, []⟩, ⟨5, []⟩, ⟨6, []⟩, ⟨8, []⟩, ⟨9, []⟩, ⟨17, []⟩, ⟨18, []⟩, ⟨19, []⟩] := by kernel_rfl
theorem res22 : Try.f22.results.toList = [.tmp 0] := by kernel_rfl
theorem ext22 : E.ext 22 = none := by kernel_rfl
theorem res23 : Try.f23.results.toList = [.tmp 2] := by kernel_rfl
theorem ext23 : E.ext 23 = none := by kernel_rfl
theorem res24 : Try.f24.results.toList = [.tmp 6, .tmp 7] := by kernel_rfl
theorem ext24 : E.ext 24 = none := by kernel_rfl
theorem res25 : Try.f25.results.toList = [.tmp 6, .tmp 7] := by kernel_rfl
theorem ext25 : E.ext 25 = none := by kernel_rfl
theorem lv25_6 : E.lv 25 6 = [⟨0, []⟩, ⟨1, []⟩, ⟨8, []⟩, ⟨29, []⟩, ⟨30, []⟩] := by kernel_rfl
theorem res26 : Try.f26.results.toList = [.tmp 4] := by kernel_rfl
theorem ext26 : E.ext 26 = none := by kernel_rfl
theorem lv26_4 : E.lv 26 4 = [⟨0, []⟩, ⟨1, []⟩, ⟨5, []⟩] := by kernel_rfl
theorem res27 : Try.f27.results.toList = [.tmp 4] := by kernel_rfl
theorem ext27 : E.ext 27 = none := by kernel_rfl
theorem lv27_4 : E.lv 27 4 = [⟨0, []⟩, ⟨1, []⟩, ⟨5, [(0, 5, 1)]⟩, ⟨6, []⟩] := by kernel_rfl
theorem lv27_7 : E.lv 27 7 = [⟨0, []⟩, ⟨1, []⟩, ⟨5, [(0, 5, 1)]⟩, ⟨6, []⟩, ⟨7, []⟩] := by kernel_rfl
theorem lv27_12 : E.lv 27 12 = [⟨5, []⟩, ⟨8, []⟩, ⟨9, []⟩] := by kernel_rfl
theorem res28 : Try.f28.results.toList = [.tmp 6, .tmp 7] := by kernel_rfl
theorem ext28 : E.ext 28 = none := by kernel_rfl
theorem lv28_6 : E.lv 28 6 = [⟨0, []⟩, ⟨1, []⟩, ⟨2, []⟩, ⟨8, [(0, 22, 1)]⟩, ⟨9, []⟩] := by kernel_rfl
theorem res29 : Try.f29.results.toList = [.tmp 6, .tmp 7] := by kernel_rfl
theorem ext29 : E.ext 29 = none := by kernel_rfl
theorem res30 : Try.f30.results.toList = [.tmp 2] := by kernel_rfl
theorem ext30 : E.ext 30 = none := by kernel_rfl
theorem lv30_2 : E.lv 30 2 = [⟨0, []⟩, ⟨3, []⟩] := by kernel_rfl
theorem res31 : Try.f31.results.toList = [.tmp 2] := by kernel_rfl
theorem ext31 : E.ext 31 = some (.fn (cloneF 5 1 1)) := by kernel_rfl
theorem res32 : Try.f32.results.toList = [] := by kernel_rfl
theorem ext32 : E.ext 32 = none := by kernel_rfl
theorem res33 : Try.f33.results.toList = [.tmp 2] := by kernel_rfl
theorem ext33 : E.ext 33 = some .clip := by kernel_rfl
theorem res34 : Try.f34.results.toList = [.tmp 2] := by kernel_rfl
theorem ext34 : E.ext 34 = none := by kernel_rfl
theorem res35 : Try.f35.results.toList = [.tmp 4] := by kernel_rfl
theorem ext35 : E.ext 35 = none := by kernel_rfl
theorem res36 : Try.f36.results.toList = [.tmp 2] := by kernel_rfl
theorem ext36 : E.ext 36 = none := by kernel_rfl
theorem res37 : Try.f37.results.toList = [.tmp 6] := by kernel_rfl
theorem ext37 : E.ext 37 = none := by kernel_rfl
theorem lv37_3 : E.lv 37 3 = [⟨0, []⟩, ⟨1, []⟩, ⟨2, []⟩, ⟨7, []⟩, ⟨8, []⟩] := by kernel_rfl
theorem res38 : Try.f38.results.toList = [.tmp 4] := by kernel_rfl
theorem ext38 : E.ext 38 = none := by kernel_rfl
theorem res39 : Try.f39.results.toList = [.tmp 2] := by kernel_rfl
theorem ext39 : E.ext 39 = some .clip := by kernel_rfl
theorem res40 : Try.f40.results.toList = [.tmp 6] := by kernel_rfl
theorem ext40 : E.ext 40 = none := by kernel_rfl
theorem lv40_3 : E.lv 40 3 = [⟨0, []⟩, ⟨1, []⟩, ⟨2, []⟩, ⟨7, []⟩, ⟨8, []⟩] := by kernel_rfl
attribute [go_sem] siz1 byt1 agg1 zer1 und2 siz2 byt2 agg2 zer2 und3 siz3 byt3 agg3 zer3 und4 siz4 byt4 agg4 zer4 und5 siz5 byt5 agg5 zer5 und9 siz9 byt9 agg9 zer9 und12 siz12 byt12 agg12 zer12 und22 siz22 byt22 agg22 zer22 siz23
attribute [go_sem] byt23 agg23 zer23 fie23_0 fie23_1 fie23_2 pla23 und24 siz24 byt24 agg24 zer24 und25 siz25 byt25 agg25 zer25 und27 siz27 byt27 agg27 zer27 und36 siz36 byt36 agg36 zer36 und38 siz38 byt38 agg38 zer38 siz41 byt41 agg41 zer41 fie41_0 fie41_1 fie41_2 pla41
attribute [go_sem] und42 siz42 byt42 agg42 zer42 und45 siz45 byt45 agg45 zer45 und54 siz54 byt54 agg54 zer54 siz59 byt59 agg59 zer59 fie59_0 fie59_1 pla59 res3 ext3 res4 ext4 res5 ext5 lv5_5 lv5_13 lv5_19 res6 ext6 res7 ext7 res8 ext8 lv8_5 lv8_12 res9
attribute [go_sem] ext9 lv9_4 lv9_15 lv9_18 lv9_26 lv9_36 res10 ext10 lv10_5 lv10_16 res11 ext11 res12 ext12 lv12_3 res13 ext13 res14 ext14 res15 ext15 lv15_2 res16 ext16 res17 ext17 res18 ext18 res19 ext19 res20 ext20 res21 ext21 lv21_5 lv21_8 res22 ext22 res23 ext23
attribute [go_sem] res24 ext24 res25 ext25 lv25_6 res26 ext26 lv26_4 res27 ext27 lv27_4 lv27_7 lv27_12 res28 ext28 lv28_6 res29 ext29 res30 ext30 lv30_2 res31 ext31 res32 ext32 res33 ext33 res34 ext34 res35 ext35 res36 ext36 res37 ext37 lv37_3 res38 ext38 res39 ext39
attribute [go_sem] res40 ext40 lv40_3
end Go.Proofs.Ytahhpnilblcfcaa.D
