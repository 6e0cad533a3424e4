/- What the evaluator asks of the seat's types and functions: rows for simp. -/
import Derived.Test.YtljjgccgmloajaaDenT1
import Derived.Test.YtljjgccgmloajaaDenK4
namespace Go.Proofs.Ytljjgccgmloajaa.D
open Go Go.Den Go.Proofs
theorem siz1 : tSize E.P 1 = some 1 := by kernel_rfl
theorem byt1 : tBytes E.P 1 = some 8 := by kernel_rfl
theorem agg1 : tAgg E.P 1 = some false := by kernel_rfl
theorem zer1 : tZero E.P 1 = some [.nilf] := by kernel_rfl
theorem und2 : E.P.underlying 2 = some (.int .i64) := by kernel_rfl
theorem siz2 : tSize E.P 2 = some 1 := by kernel_rfl
theorem byt2 : tBytes E.P 2 = some 8 := by kernel_rfl
theorem agg2 : tAgg E.P 2 = some false := by kernel_rfl
theorem zer2 : tZero E.P 2 = some [.int .i64 (0)] := by kernel_rfl
theorem und3 : E.P.underlying 3 = some (.int .i64) := by kernel_rfl
theorem siz3 : tSize E.P 3 = some 1 := by kernel_rfl
theorem byt3 : tBytes E.P 3 = some 8 := by kernel_rfl
theorem agg3 : tAgg E.P 3 = some false := by kernel_rfl
theorem zer3 : tZero E.P 3 = some [.int .i64 (0)] := by kernel_rfl
theorem und4 : E.P.underlying 4 = some (.bool) := by kernel_rfl
theorem siz4 : tSize E.P 4 = some 1 := by kernel_rfl
theorem byt4 : tBytes E.P 4 = some 1 := by kernel_rfl
theorem agg4 : tAgg E.P 4 = some false := by kernel_rfl
theorem zer4 : tZero E.P 4 = some [.bool false] := by kernel_rfl
theorem und5 : E.P.underlying 5 = some (.int .u8) := by kernel_rfl
theorem siz5 : tSize E.P 5 = some 1 := by kernel_rfl
theorem byt5 : tBytes E.P 5 = some 1 := by kernel_rfl
theorem agg5 : tAgg E.P 5 = some false := by kernel_rfl
theorem zer5 : tZero E.P 5 = some [.int .u8 (0)] := by kernel_rfl
theorem und6 : E.P.underlying 6 = some (.int .u8) := by kernel_rfl
theorem siz6 : tSize E.P 6 = some 1 := by kernel_rfl
theorem byt6 : tBytes E.P 6 = some 1 := by kernel_rfl
theorem agg6 : tAgg E.P 6 = some false := by kernel_rfl
theorem zer6 : tZero E.P 6 = some [.int .u8 (0)] := by kernel_rfl
theorem siz8 : tSize E.P 8 = some 4 := by kernel_rfl
theorem byt8 : tBytes E.P 8 = some 24 := by kernel_rfl
theorem agg8 : tAgg E.P 8 = some true := by kernel_rfl
theorem zer8 : tZero E.P 8 = some [.int .i64 (0), .int .i64 (0), .bool false, .int .u8 (0)] := by kernel_rfl
theorem fie8_0 : tField E.P 8 0 = some (0, 2) := by kernel_rfl
theorem fie8_1 : tField E.P 8 1 = some (1, 3) := by kernel_rfl
theorem fie8_2 : tField E.P 8 2 = some (2, 4) := by kernel_rfl
theorem fie8_3 : tField E.P 8 3 = some (3, 6) := by kernel_rfl
theorem pla8 : tPlaces E.P 8 = some [(0, 1), (1, 1), (2, 1), (3, 1)] := by kernel_rfl
theorem und9 : E.P.underlying 9 = some (.string) := by kernel_rfl
theorem siz9 : tSize E.P 9 = some 1 := by kernel_rfl
theorem byt9 : tBytes E.P 9 = some 16 := by kernel_rfl
theorem agg9 : tAgg E.P 9 = some false := by kernel_rfl
theorem zer9 : tZero E.P 9 = some [.str []] := by kernel_rfl
theorem und22 : E.P.underlying 22 = some (.slice 3) := by kernel_rfl
theorem siz22 : tSize E.P 22 = some 1 := by kernel_rfl
theorem byt22 : tBytes E.P 22 = some 24 := by kernel_rfl
theorem agg22 : tAgg E.P 22 = some false := by kernel_rfl
theorem zer22 : tZero E.P 22 = some [.nils] := by kernel_rfl
theorem und23 : E.P.underlying 23 = some (.slice 43) := by kernel_rfl
theorem siz23 : tSize E.P 23 = some 1 := by kernel_rfl
theorem byt23 : tBytes E.P 23 = some 24 := by kernel_rfl
theorem agg23 : tAgg E.P 23 = some false := by kernel_rfl
theorem zer23 : tZero E.P 23 = some [.nils] := by kernel_rfl
theorem siz25 : tSize E.P 25 = some 1 := by kernel_rfl
theorem byt25 : tBytes E.P 25 = some 24 := by kernel_rfl
theorem agg25 : tAgg E.P 25 = some true := by kernel_rfl
theorem zer25 : tZero E.P 25 = some [.nils] := by kernel_rfl
theorem fie25_0 : tField E.P 25 0 = some (0, 23) := by kernel_rfl
theorem pla25 : tPlaces E.P 25 = some [(0, 1)] := by kernel_rfl
theorem und27 : E.P.underlying 27 = some (.slice 5) := by kernel_rfl
theorem siz27 : tSize E.P 27 = some 1 := by kernel_rfl
theorem byt27 : tBytes E.P 27 = some 24 := by kernel_rfl
theorem agg27 : tAgg E.P 27 = some false := by kernel_rfl
theorem zer27 : tZero E.P 27 = some [.nils] := by kernel_rfl
theorem siz29 : tSize E.P 29 = some 4 := by kernel_rfl
theorem byt29 : tBytes E.P 29 = some 48 := by kernel_rfl
theorem agg29 : tAgg E.P 29 = some true := by kernel_rfl
theorem zer29 : tZero E.P 29 = some [.bool false, .int .i64 (0), .int .i64 (0), .nils] := by kernel_rfl
theorem fie29_0 : tField E.P 29 0 = some (0, 4) := by kernel_rfl
theorem fie29_1 : tField E.P 29 1 = some (1, 3) := by kernel_rfl
theorem fie29_2 : tField E.P 29 2 = some (2, 2) := by kernel_rfl
theorem fie29_3 : tField E.P 29 3 = some (3, 27) := by kernel_rfl
theorem pla29 : tPlaces E.P 29 = some [(0, 1), (1, 1), (2, 1), (3, 1)] := by kernel_rfl
theorem und30 : E.P.underlying 30 = some (.slice 32) := by kernel_rfl
theorem siz30 : tSize E.P 30 = some 1 := by kernel_rfl
theorem byt30 : tBytes E.P 30 = some 24 := by kernel_rfl
theorem agg30 : tAgg E.P 30 = some false := by kernel_rfl
theorem zer30 : tZero E.P 30 = some [.nils] := by kernel_rfl
theorem siz32 : tSize E.P 32 = some 8 := by kernel_rfl
theorem byt32 : tBytes E.P 32 = some 96 := by kernel_rfl
theorem agg32 : tAgg E.P 32 = some true := by kernel_rfl
theorem zer32 : tZero E.P 32 = some [.int .i64 (0), .int .i64 (0), .int .i64 (0), .bool false, .int .i64 (0), .int .i64 (0), .nils, .nils] := by kernel_rfl
theorem fie32_0 : tField E.P 32 0 = some (0, 3) := by kernel_rfl
theorem fie32_1 : tField E.P 32 1 = some (1, 3) := by kernel_rfl
theorem fie32_2 : tField E.P 32 2 = some (2, 3) := by kernel_rfl
theorem fie32_3 : tField E.P 32 3 = some (3, 29) := by kernel_rfl
theorem fie32_4 : tField E.P 32 4 = some (7, 30) := by kernel_rfl
theorem pla32 : tPlaces E.P 32 = some [(0, 1), (1, 1), (2, 1), (3, 4), (7, 1)] := by kernel_rfl
theorem siz43 : tSize E.P 43 = some 3 := by kernel_rfl
theorem byt43 : tBytes E.P 43 = some 32 := by kernel_rfl
theorem agg43 : tAgg E.P 43 = some true := by kernel_rfl
theorem zer43 : tZero E.P 43 = some [.str [], .int .i64 (0), .bool false] := by kernel_rfl
theorem fie43_0 : tField E.P 43 0 = some (0, 9) := by kernel_rfl
theorem fie43_1 : tField E.P 43 1 = some (1, 3) := by kernel_rfl
theorem fie43_2 : tField E.P 43 2 = some (2, 4) := by kernel_rfl
theorem pla43 : tPlaces E.P 43 = some [(0, 1), (1, 1), (2, 1)] := by kernel_rfl
theorem und44 : E.P.underlying 44 = some (.slice 9) := by kernel_rfl
theorem siz44 : tSize E.P 44 = some 1 := by kernel_rfl
theorem byt44 : tBytes E.P 44 = some 24 := by kernel_rfl
theorem agg44 : tAgg E.P 44 = some false := by kernel_rfl
theorem zer44 : tZero E.P 44 = some [.nils] := by kernel_rfl
theorem und45 : E.P.underlying 45 = some (.int .u64) := by kernel_rfl
theorem siz45 : tSize E.P 45 = some 1 := by kernel_rfl
theorem byt45 : tBytes E.P 45 = some 8 := by kernel_rfl
theorem agg45 : tAgg E.P 45 = some false := by kernel_rfl
theorem zer45 : tZero E.P 45 = some [.int .u64 (0)] := by kernel_rfl
theorem und49 : E.P.underlying 49 = some (.slice 30) := by kernel_rfl
theorem siz49 : tSize E.P 49 = some 1 := by kernel_rfl
theorem byt49 : tBytes E.P 49 = some 24 := by kernel_rfl
theorem agg49 : tAgg E.P 49 = some false := by kernel_rfl
theorem zer49 : tZero E.P 49 = some [.nils] := by kernel_rfl
theorem siz51 : tSize E.P 51 = some 2 := by kernel_rfl
theorem byt51 : tBytes E.P 51 = some 32 := by kernel_rfl
theorem agg51 : tAgg E.P 51 = some true := by kernel_rfl
theorem zer51 : tZero E.P 51 = some [.nils, .bool false] := by kernel_rfl
theorem fie51_0 : tField E.P 51 0 = some (0, 49) := by kernel_rfl
theorem fie51_1 : tField E.P 51 1 = some (1, 4) := by kernel_rfl
theorem pla51 : tPlaces E.P 51 = some [(0, 1), (1, 1)] := by kernel_rfl
theorem und73 : E.P.underlying 73 = some (.slice 49) := by kernel_rfl
theorem siz73 : tSize E.P 73 = some 1 := by kernel_rfl
theorem byt73 : tBytes E.P 73 = some 24 := by kernel_rfl
theorem agg73 : tAgg E.P 73 = some false := by kernel_rfl
theorem zer73 : tZero E.P 73 = some [.nils] := by kernel_rfl
theorem res3 : Try.f3.results.toList = [.tmp 6] := by kernel_rfl
theorem ext3 : E.ext 3 = none := by kernel_rfl
theorem lv3_4 : E.lv 3 4 = [⟨7, []⟩, ⟨38, []⟩, ⟨39, []⟩, ⟨40, []⟩] := by kernel_rfl
theorem res4 : Try.f4.results.toList = [.cell 2 25] := by kernel_rfl
theorem ext4 : E.ext 4 = none := by kernel_rfl
theorem lv4_4 : E.lv 4 4 = [⟨0, []⟩, ⟨2, []⟩, ⟨3, []⟩, ⟨4, []⟩, ⟨5, []⟩] := by kernel_rfl
theorem res5 : Try.f5.results.toList = [.cell 8 32] := by kernel_rfl
theorem ext5 : E.ext 5 = none := by kernel_rfl
theorem lv5_17 : E.lv 5 17 = [⟨1, []⟩, ⟨2, []⟩, ⟨3, []⟩, ⟨4, []⟩, ⟨8, []⟩, ⟨9, []⟩, ⟨12, []⟩, ⟨13, []⟩] := by kernel_rfl
theorem res6 : Try.f6.results.toList = [.tmp 4] := by kernel_rfl
theorem ext6 : E.ext 6 = none := by kernel_rfl
theorem res7 : Try.f7.results.toList = [.cell 2 32, .tmp 3] := by kernel_rfl
theorem ext7 : E.ext 7 = none := by kernel_rfl
theorem lv7_6 : E.lv 7 6 = [⟨2, []⟩, ⟨5, [(0, 32, 8)]⟩, ⟨15, []⟩, ⟨16, []⟩, ⟨17, []⟩] := by kernel_rfl
theorem res8 : Try.f8.results.toList = [.cell 2 32, .tmp 3] := by kernel_rfl
theorem ext8 : E.ext 8 = none := by kernel_rfl
theorem lv8_6 : E.lv 8 6 = [⟨2, []⟩, ⟨4, []⟩, ⟨6, []⟩, ⟨7, []⟩] := by kernel_rfl
theorem res9 : Try.f9.results.toList = [.tmp 2, .tmp 3] := by kernel_rfl
theorem ext9 : E.ext 9 = none := by kernel_rfl
theorem lv9_5 : E.lv 9 5 = [⟨25, []⟩, ⟨26, []⟩, ⟨27, []⟩] := by kernel_rfl
theorem res10 : Try.f10.results.toList = [.tmp 2, .tmp 3] := by kernel_rfl
theorem ext10 : E.ext 10 = none := by kernel_rfl
theorem lv10_6 : E.lv 10 6 = [⟨6, []⟩, ⟨7, []⟩] := by kernel_rfl
theorem res11 : Try.f11.results.toList = [.tmp 4] := by kernel_rfl
theorem ext11 : E.ext 11 = none := by kernel_rfl
theorem lv11_4 : E.lv 11 4 = [⟨2, []⟩, ⟨3, []⟩, ⟨5, []⟩] := by kernel_rfl
theorem res12 : Try.f12.results.toList = [.tmp 0] := by kernel_rfl
theorem ext12 : E.ext 12 = none := by kernel_rfl
theorem res13 : Try.f13.results.toList = [.cell 4 29] := by kernel_rfl
theorem ext13 : E.ext 13 = none := by kernel_rfl
theorem res14 : Try.f14.results.toList = [.tmp 4, .tmp 5] := by kernel_rfl
theorem ext14 : E.ext 14 = none := by kernel_rfl
theorem lv14_5 : E.lv 14 5 = [⟨1, []⟩, ⟨2, []⟩, ⟨6, []⟩, ⟨7, []⟩, ⟨8, []⟩] := by kernel_rfl
theorem res15 : Try.f15.results.toList = [.tmp 4] := by kernel_rfl
theorem ext15 : E.ext 15 = none := by kernel_rfl
theorem lv15_16 : E.lv 15 16 = [⟨2, []⟩, ⟨3, []⟩, ⟨7, []⟩] := by kernel_rfl
theorem res16 : Try.f16.results.toList = [.cell 4 51] := by kernel_rfl
theorem ext16 : E.ext 16 = none := by kernel_rfl
theorem res17 : Try.f17.results.toList = [.cell 2 32] := by kernel_rfl
theorem ext17 : E.ext 17 = none := by kernel_rfl
theorem res18 : Try.f18.results.toList = [.cell 2 32] := by kernel_rfl
theorem ext18 : E.ext 18 = none := by kernel_rfl
theorem res19 : Try.f19.results.toList = [.tmp 2, .tmp 3] := by kernel_rfl
theorem ext19 : E.ext 19 = none := by kernel_rfl
theorem lv19_5 : E.lv 19 5 = [⟨1, []⟩, ⟨4, [(0, 30, 1)]⟩, ⟨5, []⟩] := by kernel_rfl
theorem lv19_15 : E.lv 19 15 = [⟨1, []⟩, ⟨8, [(0, 30, 1)]⟩, ⟨9, []⟩] := by kernel_rfl
theorem lv19_22 : E.lv 19 22 = [⟨1, []⟩, ⟨8, []⟩, ⟨9, []⟩, ⟨10, []⟩, ⟨12, [(0, 30, 1)]⟩, ⟨13, []⟩] := by kernel_rfl
theorem lv19_25 : E.lv 19 25 = [⟨1, []⟩, ⟨8, []⟩, ⟨9, []⟩, ⟨10, []⟩, ⟨12, [(0, 30, 1)]⟩, ⟨13, []⟩, ⟨14, []⟩] := by kernel_rfl
theorem res20 : Try.f20.results.toList = [.cell 4 32] := by kernel_rfl
theorem ext20 : E.ext 20 = none := by kernel_rfl
theorem lv20_20 : E.lv 20 20 = [⟨1, []⟩, ⟨2, []⟩, ⟨4, []⟩, ⟨5, []⟩, ⟨6, []⟩] := by kernel_rfl
theorem res21 : Try.f21.results.toList = [.tmp 4] := by kernel_rfl
theorem ext21 : E.ext 21 = none := by kernel_rfl
theorem res22 : Try.f22.results.toList = [.tmp 2] := by kernel_rfl
theorem ext22 : E.ext 22 = none := by kernel_rfl
theorem res23 : Try.f23.results.toList = [.tmp 4] := by kernel_rfl
theorem ext23 : E.ext 23 = none := by kernel_rfl
theorem res24 : Try.f24.results.toList = [.cell 0 51] := by kernel_rfl
theorem ext24 : E.ext 24 = none := by kernel_rfl
theorem res25 : Try.f25.results.toList = [.cell 0 51] := by kernel_rfl
theorem ext25 : E.ext 25 = none := by kernel_rfl
theorem res26 : Try.f26.results.toList = [.tmp 2] := by kernel_rfl
theorem ext26 : E.ext 26 = none := by kernel_rfl
theorem res27 : Try.f27.results.toList = [.cell 2 51] := by kernel_rfl
theorem ext27 : E.ext 27 = none := by kernel_rfl
theorem res28 : Try.f28.results.toList = [.cell 2 32] := by kernel_rfl
theorem ext28 : E.ext 28 = none := by kernel_rfl
theorem res29 : Try.f29.results.toList = [.cell 6 51] := by kernel_rfl
theorem ext29 : E.ext 29 = none := by kernel_rfl
theorem lv29_5 : E.lv 29 5 = [⟨1, []⟩, ⟨2, []⟩, ⟨6, []⟩, ⟨7, [(0, 30, 1)]⟩, ⟨14, []⟩, ⟨15, []⟩, ⟨16, []⟩] := by kernel_rfl
theorem res30 : Try.f30.results.toList = [.tmp 2] := by kernel_rfl
theorem ext30 : E.ext 30 = none := by kernel_rfl
theorem res31 : Try.f31.results.toList = [.tmp 2] := by kernel_rfl
theorem ext31 : E.ext 31 = some (.fn otherF) := by kernel_rfl
theorem res32 : Try.f32.results.toList = [.cell 2 32] := by kernel_rfl
theorem ext32 : E.ext 32 = none := by kernel_rfl
theorem lv32_4 : E.lv 32 4 = [⟨1, []⟩, ⟨2, []⟩, ⟨3, [(0, 32, 8)]⟩, ⟨11, []⟩, ⟨12, []⟩, ⟨13, []⟩] := by kernel_rfl
theorem res33 : Try.f33.results.toList = [.cell 4 51] := by kernel_rfl
theorem ext33 : E.ext 33 = none := by kernel_rfl
theorem lv33_5 : E.lv 33 5 = [⟨3, []⟩, ⟨4, []⟩, ⟨5, [(0, 30, 1)]⟩, ⟨33, []⟩, ⟨34, []⟩, ⟨35, []⟩] := by kernel_rfl
theorem lv33_8 : E.lv 33 8 = [⟨3, []⟩, ⟨4, []⟩, ⟨5, [(0, 30, 1)]⟩, ⟨7, []⟩, ⟨33, []⟩, ⟨34, []⟩, ⟨35, []⟩, ⟨40, []⟩, ⟨41, []⟩, ⟨42, []⟩] := by kernel_rfl
theorem res34 : Try.f34.results.toList = [.cell 4 51] := by kernel_rfl
theorem ext34 : E.ext 34 = none := by kernel_rfl
theorem res35 : Try.f35.results.toList = [.cell 2 29] := by kernel_rfl
theorem ext35 : E.ext 35 = none := by kernel_rfl
theorem res36 : Try.f36.results.toList = [.tmp 2] := by kernel_rfl
theorem ext36 : E.ext 36 = some .clip := by kernel_rfl
theorem res37 : Try.f37.results.toList = [.tmp 2] := by kernel_rfl
theorem ext37 : E.ext 37 = none := by kernel_rfl
theorem lv37_3 : E.lv 37 3 = [⟨0, []⟩, ⟨3, []⟩, ⟨9, []⟩, ⟨10, []⟩, ⟨11, []⟩] := by kernel_rfl
theorem lv37_11 : E.lv 37 11 = [⟨6, [(0, 32, 8)]⟩, ⟨25, []⟩, ⟨26, []⟩, ⟨27, []⟩] := by kernel_rfl
theorem res38 : Try.f38.results.toList = [.tmp 2] := by kernel_rfl
theorem ext38 : E.ext 38 = none := by kernel_rfl
theorem lv38_3 : E.lv 38 3 = [⟨0, []⟩, ⟨3, []⟩, ⟨9, []⟩, ⟨10, []⟩, ⟨11, []⟩] := by kernel_rfl
theorem lv38_11 : E.lv 38 11 = [⟨6, [(0, 30, 1)]⟩, ⟨25, []⟩, ⟨26, []⟩, ⟨27, []⟩] := by kernel_rfl
theorem res39 : Try.f39.results.toList = [.tmp 2] := by kernel_rfl
theorem ext39 : E.ext 39 = some (.fn (cloneF 5 1 1)) := by kernel_rfl
theorem res40 : Try.f40.results.toList = [.tmp 4] := by kernel_rfl
theorem ext40 : E.ext 40 = some (.fn (growF 32 8 96)) := by kernel_rfl
theorem res41 : Try.f41.results.toList = [.tmp 4] := by kernel_rfl
theorem ext41 : E.ext 41 = some (.fn (growF 30 1 24)) := by kernel_rfl
attribute [go_sem] siz1 byt1 agg1 zer1 und2 siz2 byt2 agg2 zer2 und3 siz3 byt3 agg3 zer3 und4 siz4 byt4 agg4 zer4 und5 siz5 byt5 agg5 zer5 und6 siz6 byt6 agg6 zer6 siz8 byt8 agg8 zer8 fie8_0 fie8_1 fie8_2 fie8_3 pla8 und9 siz9
attribute [go_sem] byt9 agg9 zer9 und22 siz22 byt22 agg22 zer22 und23 siz23 byt23 agg23 zer23 siz25 byt25 agg25 zer25 fie25_0 pla25 und27 siz27 byt27 agg27 zer27 siz29 byt29 agg29 zer29 fie29_0 fie29_1 fie29_2 fie29_3 pla29 und30 siz30 byt30 agg30 zer30 siz32 byt32
attribute [go_sem] agg32 zer32 fie32_0 fie32_1 fie32_2 fie32_3 fie32_4 pla32 siz43 byt43 agg43 zer43 fie43_0 fie43_1 fie43_2 pla43 und44 siz44 byt44 agg44 zer44 und45 siz45 byt45 agg45 zer45 und49 siz49 byt49 agg49 zer49 siz51 byt51 agg51 zer51 fie51_0 fie51_1 pla51 und73 siz73
attribute [go_sem] byt73 agg73 zer73 res3 ext3 lv3_4 res4 ext4 lv4_4 res5 ext5 lv5_17 res6 ext6 res7 ext7 lv7_6 res8 ext8 lv8_6 res9 ext9 lv9_5 res10 ext10 lv10_6 res11 ext11 lv11_4 res12 ext12 res13 ext13 res14 ext14 lv14_5 res15 ext15 lv15_16 res16
attribute [go_sem] ext16 res17 ext17 res18 ext18 res19 ext19 lv19_5 lv19_15 lv19_22 lv19_25 res20 ext20 lv20_20 res21 ext21 res22 ext22 res23 ext23 res24 ext24 res25 ext25 res26 ext26 res27 ext27 res28 ext28 res29 ext29 lv29_5 res30 ext30 res31 ext31 res32 ext32 lv32_4
attribute [go_sem] res33 ext33 lv33_5 lv33_8 res34 ext34 res35 ext35 res36 ext36 res37 ext37 lv37_3 lv37_11 res38 ext38 lv38_3 lv38_11 res39 ext39 res40 ext40 res41 ext41
end Go.Proofs.Ytljjgccgmloajaa.D
