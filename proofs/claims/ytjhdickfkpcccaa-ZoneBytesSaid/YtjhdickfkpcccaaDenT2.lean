/- What the evaluator asks of the seat's types and functions: rows for simp. -/
import Derived.Test.YtjhdickfkpcccaaDenT1
import Derived.Test.YtjhdickfkpcccaaDenK4
namespace Go.Proofs.Ytjhdickfkpcccaa.D
open Go Go.Den Go.Proofs
theorem siz1 : tSize E.P 1 = some 1 := by kernel_rfl
theorem byt1 : tBytes E.P 1 = some 8 := by kernel_rfl
theorem agg1 : tAgg E.P 1 = some false := by kernel_rfl
theorem zer1 : tZero E.P 1 = some [.nilf] := by kernel_rfl
theorem und2 : E.P.underlying 2 = some (.int .i64) := by kernel_rfl
theorem siz2 : tSize E.P 2 = some 1 := by kernel_rfl
theorem byt2 : tBytes E.P 2 = some 8 := by kernel_rfl
theorem agg2 : tAgg E.P 2 = some false := by kernel_rfl
theorem zer2 : tZero E.P 2 = some [.int .i64 (0)] := by kernel_rfl
theorem und3 : E.P.underlying 3 = some (.int .i64) := by kernel_rfl
theorem siz3 : tSize E.P 3 = some 1 := by kernel_rfl
theorem byt3 : tBytes E.P 3 = some 8 := by kernel_rfl
theorem agg3 : tAgg E.P 3 = some false := by kernel_rfl
theorem zer3 : tZero E.P 3 = some [.int .i64 (0)] := by kernel_rfl
theorem und4 : E.P.underlying 4 = some (.bool) := by kernel_rfl
theorem siz4 : tSize E.P 4 = some 1 := by kernel_rfl
theorem byt4 : tBytes E.P 4 = some 1 := by kernel_rfl
theorem agg4 : tAgg E.P 4 = some false := by kernel_rfl
theorem zer4 : tZero E.P 4 = some [.bool false] := by kernel_rfl
theorem und5 : E.P.underlying 5 = some (.int .u8) := by kernel_rfl
theorem siz5 : tSize E.P 5 = some 1 := by kernel_rfl
theorem byt5 : tBytes E.P 5 = some 1 := by kernel_rfl
theorem agg5 : tAgg E.P 5 = some false := by kernel_rfl
theorem zer5 : tZero E.P 5 = some [.int .u8 (0)] := by kernel_rfl
theorem und9 : E.P.underlying 9 = some (.string) := by kernel_rfl
theorem siz9 : tSize E.P 9 = some 1 := by kernel_rfl
theorem byt9 : tBytes E.P 9 = some 16 := by kernel_rfl
theorem agg9 : tAgg E.P 9 = some false := by kernel_rfl
theorem zer9 : tZero E.P 9 = some [.str []] := by kernel_rfl
theorem und22 : E.P.underlying 22 = some (.slice 23) := by kernel_rfl
theorem siz22 : tSize E.P 22 = some 1 := by kernel_rfl
theorem byt22 : tBytes E.P 22 = some 24 := by kernel_rfl
theorem agg22 : tAgg E.P 22 = some false := by kernel_rfl
theorem zer22 : tZero E.P 22 = some [.nils] := by kernel_rfl
theorem und23 : E.P.underlying 23 = some (.slice 5) := by kernel_rfl
theorem siz23 : tSize E.P 23 = some 1 := by kernel_rfl
theorem byt23 : tBytes E.P 23 = some 24 := by kernel_rfl
theorem agg23 : tAgg E.P 23 = some false := by kernel_rfl
theorem zer23 : tZero E.P 23 = some [.nils] := by kernel_rfl
theorem siz25 : tSize E.P 25 = some 3 := by kernel_rfl
theorem byt25 : tBytes E.P 25 = some 32 := by kernel_rfl
theorem agg25 : tAgg E.P 25 = some true := by kernel_rfl
theorem zer25 : tZero E.P 25 = some [.str [], .int .i64 (0), .bool false] := by kernel_rfl
theorem fie25_0 : tField E.P 25 0 = some (0, 9) := by kernel_rfl
theorem fie25_1 : tField E.P 25 1 = some (1, 3) := by kernel_rfl
theorem fie25_2 : tField E.P 25 2 = some (2, 4) := by kernel_rfl
theorem pla25 : tPlaces E.P 25 = some [(0, 1), (1, 1), (2, 1)] := by kernel_rfl
theorem und26 : E.P.underlying 26 = some (.slice 25) := by kernel_rfl
theorem siz26 : tSize E.P 26 = some 1 := by kernel_rfl
theorem byt26 : tBytes E.P 26 = some 24 := by kernel_rfl
theorem agg26 : tAgg E.P 26 = some false := by kernel_rfl
theorem zer26 : tZero E.P 26 = some [.nils] := by kernel_rfl
theorem siz28 : tSize E.P 28 = some 1 := by kernel_rfl
theorem byt28 : tBytes E.P 28 = some 24 := by kernel_rfl
theorem agg28 : tAgg E.P 28 = some true := by kernel_rfl
theorem zer28 : tZero E.P 28 = some [.nils] := by kernel_rfl
theorem fie28_0 : tField E.P 28 0 = some (0, 26) := by kernel_rfl
theorem pla28 : tPlaces E.P 28 = some [(0, 1)] := by kernel_rfl
theorem und30 : E.P.underlying 30 = some (.slice 33) := by kernel_rfl
theorem siz30 : tSize E.P 30 = some 1 := by kernel_rfl
theorem byt30 : tBytes E.P 30 = some 24 := by kernel_rfl
theorem agg30 : tAgg E.P 30 = some false := by kernel_rfl
theorem zer30 : tZero E.P 30 = some [.nils] := by kernel_rfl
theorem siz32 : tSize E.P 32 = some 4 := by kernel_rfl
theorem byt32 : tBytes E.P 32 = some 48 := by kernel_rfl
theorem agg32 : tAgg E.P 32 = some true := by kernel_rfl
theorem zer32 : tZero E.P 32 = some [.bool false, .int .i64 (0), .int .i64 (0), .nils] := by kernel_rfl
theorem fie32_0 : tField E.P 32 0 = some (0, 4) := by kernel_rfl
theorem fie32_1 : tField E.P 32 1 = some (1, 3) := by kernel_rfl
theorem fie32_2 : tField E.P 32 2 = some (2, 2) := by kernel_rfl
theorem fie32_3 : tField E.P 32 3 = some (3, 23) := by kernel_rfl
theorem pla32 : tPlaces E.P 32 = some [(0, 1), (1, 1), (2, 1), (3, 1)] := by kernel_rfl
theorem und33 : E.P.underlying 33 = some (.slice 32) := by kernel_rfl
theorem siz33 : tSize E.P 33 = some 1 := by kernel_rfl
theorem byt33 : tBytes E.P 33 = some 24 := by kernel_rfl
theorem agg33 : tAgg E.P 33 = some false := by kernel_rfl
theorem zer33 : tZero E.P 33 = some [.nils] := by kernel_rfl
theorem und34 : E.P.underlying 34 = some (.slice 37) := by kernel_rfl
theorem siz34 : tSize E.P 34 = some 1 := by kernel_rfl
theorem byt34 : tBytes E.P 34 = some 24 := by kernel_rfl
theorem agg34 : tAgg E.P 34 = some false := by kernel_rfl
theorem zer34 : tZero E.P 34 = some [.nils] := by kernel_rfl
theorem siz37 : tSize E.P 37 = some 9 := by kernel_rfl
theorem byt37 : tBytes E.P 37 = some 104 := by kernel_rfl
theorem agg37 : tAgg E.P 37 = some true := by kernel_rfl
theorem zer37 : tZero E.P 37 = some [.int .i64 (0), .bool false, .int .i64 (0), .int .i64 (0), .nils, .bool false, .int .i64 (0), .int .i64 (0), .nils] := by kernel_rfl
theorem fie37_0 : tField E.P 37 0 = some (0, 3) := by kernel_rfl
theorem fie37_1 : tField E.P 37 1 = some (1, 32) := by kernel_rfl
theorem fie37_2 : tField E.P 37 2 = some (5, 32) := by kernel_rfl
theorem pla37 : tPlaces E.P 37 = some [(0, 1), (1, 4), (5, 4)] := by kernel_rfl
theorem und39 : E.P.underlying 39 = some (.slice 41) := by kernel_rfl
theorem siz39 : tSize E.P 39 = some 1 := by kernel_rfl
theorem byt39 : tBytes E.P 39 = some 24 := by kernel_rfl
theorem agg39 : tAgg E.P 39 = some false := by kernel_rfl
theorem zer39 : tZero E.P 39 = some [.nils] := by kernel_rfl
theorem siz41 : tSize E.P 41 = some 8 := by kernel_rfl
theorem byt41 : tBytes E.P 41 = some 96 := by kernel_rfl
theorem agg41 : tAgg E.P 41 = some true := by kernel_rfl
theorem zer41 : tZero E.P 41 = some [.int .i64 (0), .int .i64 (0), .int .i64 (0), .bool false, .int .i64 (0), .int .i64 (0), .nils, .nils] := by kernel_rfl
theorem fie41_0 : tField E.P 41 0 = some (0, 3) := by kernel_rfl
theorem fie41_1 : tField E.P 41 1 = some (1, 3) := by kernel_rfl
theorem fie41_2 : tField E.P 41 2 = some (2, 3) := by kernel_rfl
theorem fie41_3 : tField E.P 41 3 = some (3, 32) := by kernel_rfl
theorem fie41_4 : tField E.P 41 4 = some (7, 39) := by kernel_rfl
theorem pla41 : tPlaces E.P 41 = some [(0, 1), (1, 1), (2, 1), (3, 4), (7, 1)] := by kernel_rfl
theorem siz50 : tSize E.P 50 = some 1 := by kernel_rfl
theorem byt50 : tBytes E.P 50 = some 8 := by kernel_rfl
theorem agg50 : tAgg E.P 50 = some false := by kernel_rfl
theorem zer50 : tZero E.P 50 = some [.nilf] := by kernel_rfl
theorem und53 : E.P.underlying 53 = some (.slice 39) := by kernel_rfl
theorem siz53 : tSize E.P 53 = some 1 := by kernel_rfl
theorem byt53 : tBytes E.P 53 = some 24 := by kernel_rfl
theorem agg53 : tAgg E.P 53 = some false := by kernel_rfl
theorem zer53 : tZero E.P 53 = some [.nils] := by kernel_rfl
theorem siz55 : tSize E.P 55 = some 2 := by kernel_rfl
theorem byt55 : tBytes E.P 55 = some 32 := by kernel_rfl
theorem agg55 : tAgg E.P 55 = some true := by kernel_rfl
theorem zer55 : tZero E.P 55 = some [.nils, .bool false] := by kernel_rfl
theorem fie55_0 : tField E.P 55 0 = some (0, 53) := by kernel_rfl
theorem fie55_1 : tField E.P 55 1 = some (1, 4) := by kernel_rfl
theorem pla55 : tPlaces E.P 55 = some [(0, 1), (1, 1)] := by kernel_rfl
theorem und77 : E.P.underlying 77 = some (.slice 53) := by kernel_rfl
theorem siz77 : tSize E.P 77 = some 1 := by kernel_rfl
theorem byt77 : tBytes E.P 77 = some 24 := by kernel_rfl
theorem agg77 : tAgg E.P 77 = some false := by kernel_rfl
theorem zer77 : tZero E.P 77 = some [.nils] := by kernel_rfl
theorem res3 : Try.f3.results.toList = [.tmp 4] := by kernel_rfl
theorem ext3 : E.ext 3 = none := by kernel_rfl
theorem lv3_7 : E.lv 3 7 = [⟨0, []⟩, ⟨3, []⟩, ⟨5, []⟩, ⟨6, []⟩, ⟨7, []⟩, ⟨8, []⟩, ⟨27, []⟩, ⟨28, []⟩, ⟨29, []⟩] := by kernel_rfl
theorem res4 : Try.f4.results.toList = [.tmp 0] := by kernel_rfl
theorem ext4 : E.ext 4 = none := by kernel_rfl
theorem res5 : Try.f5.results.toList = [.tmp 4] := by kernel_rfl
theorem ext5 : E.ext 5 = none := by kernel_rfl
theorem lv5_3 : E.lv 5 3 = [⟨1, []⟩, ⟨5, [(0, 37, 9)]⟩, ⟨13, []⟩, ⟨14, []⟩, ⟨15, []⟩] := by kernel_rfl
theorem lv5_8 : E.lv 5 8 = [⟨1, []⟩, ⟨5, []⟩, ⟨6, []⟩, ⟨9, []⟩, ⟨13, []⟩, ⟨14, []⟩, ⟨15, []⟩, ⟨26, []⟩, ⟨27, []⟩, ⟨28, []⟩] := by kernel_rfl
theorem res6 : Try.f6.results.toList = [.tmp 5] := by kernel_rfl
theorem ext6 : E.ext 6 = none := by kernel_rfl
theorem res7 : Try.f7.results.toList = [.tmp 6] := by kernel_rfl
theorem ext7 : E.ext 7 = none := by kernel_rfl
theorem res8 : Try.f8.results.toList = [.cell 4 41] := by kernel_rfl
theorem ext8 : E.ext 8 = none := by kernel_rfl
theorem res9 : Try.f9.results.toList = [.cell 4 37] := by kernel_rfl
theorem ext9 : E.ext 9 = none := by kernel_rfl
theorem res10 : Try.f10.results.toList = [.tmp 2] := by kernel_rfl
theorem ext10 : E.ext 10 = some .clip := by kernel_rfl
theorem res11 : Try.f11.results.toList = [.cell 2 41, .tmp 3] := by kernel_rfl
theorem ext11 : E.ext 11 = none := by kernel_rfl
theorem lv11_6 : E.lv 11 6 = [⟨2, []⟩, ⟨5, [(0, 41, 8)]⟩, ⟨15, []⟩, ⟨16, []⟩, ⟨17, []⟩] := by kernel_rfl
theorem res12 : Try.f12.results.toList = [.tmp 4] := by kernel_rfl
theorem ext12 : E.ext 12 = none := by kernel_rfl
theorem res13 : Try.f13.results.toList = [.tmp 4] := by kernel_rfl
theorem ext13 : E.ext 13 = none := by kernel_rfl
theorem res14 : Try.f14.results.toList = [.tmp 4] := by kernel_rfl
theorem ext14 : E.ext 14 = none := by kernel_rfl
theorem res15 : Try.f15.results.toList = [.tmp 6] := by kernel_rfl
theorem ext15 : E.ext 15 = none := by kernel_rfl
theorem res16 : Try.f16.results.toList = [.cell 2 32] := by kernel_rfl
theorem ext16 : E.ext 16 = none := by kernel_rfl
theorem res17 : Try.f17.results.toList = [.tmp 4] := by kernel_rfl
theorem ext17 : E.ext 17 = none := by kernel_rfl
theorem res18 : Try.f18.results.toList = [.cell 4 55] := by kernel_rfl
theorem ext18 : E.ext 18 = none := by kernel_rfl
theorem res19 : Try.f19.results.toList = [.cell 2 41] := by kernel_rfl
theorem ext19 : E.ext 19 = none := by kernel_rfl
theorem res20 : Try.f20.results.toList = [.cell 2 41] := by kernel_rfl
theorem ext20 : E.ext 20 = none := by kernel_rfl
theorem res21 : Try.f21.results.toList = [.tmp 4] := by kernel_rfl
theorem ext21 : E.ext 21 = none := by kernel_rfl
theorem lv21_2 : E.lv 21 2 = [⟨0, []⟩, ⟨1, []⟩, ⟨7, []⟩, ⟨8, []⟩] := by kernel_rfl
theorem res22 : Try.f22.results.toList = [.tmp 4] := by kernel_rfl
theorem ext22 : E.ext 22 = none := by kernel_rfl
theorem res23 : Try.f23.results.toList = [.tmp 2] := by kernel_rfl
theorem ext23 : E.ext 23 = some (.fn (cloneF 5 1 1)) := by kernel_rfl
theorem res24 : Try.f24.results.toList = [.tmp 4] := by kernel_rfl
theorem ext24 : E.ext 24 = none := by kernel_rfl
theorem res25 : Try.f25.results.toList = [.tmp 2] := by kernel_rfl
theorem ext25 : E.ext 25 = none := by kernel_rfl
theorem res26 : Try.f26.results.toList = [.tmp 4] := by kernel_rfl
theorem ext26 : E.ext 26 = none := by kernel_rfl
theorem res27 : Try.f27.results.toList = [.tmp 4] := by kernel_rfl
theorem ext27 : E.ext 27 = some (.fn compareF) := by kernel_rfl
theorem res28 : Try.f28.results.toList = [.cell 0 55] := by kernel_rfl
theorem ext28 : E.ext 28 = none := by kernel_rfl
theorem res29 : Try.f29.results.toList = [.cell 0 55] := by kernel_rfl
theorem ext29 : E.ext 29 = none := by kernel_rfl
theorem res30 : Try.f30.results.toList = [.tmp 2] := by kernel_rfl
theorem ext30 : E.ext 30 = none := by kernel_rfl
theorem res31 : Try.f31.results.toList = [.cell 2 55] := by kernel_rfl
theorem ext31 : E.ext 31 = none := by kernel_rfl
theorem res32 : Try.f32.results.toList = [.cell 2 41] := by kernel_rfl
theorem ext32 : E.ext 32 = none := by kernel_rfl
theorem res33 : Try.f33.results.toList = [.cell 6 55] := by kernel_rfl
theorem ext33 : E.ext 33 = none := by kernel_rfl
theorem lv33_5 : E.lv 33 5 = [⟨1, []⟩, ⟨2, []⟩, ⟨6, []⟩, ⟨7, [(0, 39, 1)]⟩, ⟨14, []⟩, ⟨15, []⟩, ⟨16, []⟩] := by kernel_rfl
theorem res34 : Try.f34.results.toList = [.tmp 2] := by kernel_rfl
theorem ext34 : E.ext 34 = none := by kernel_rfl
theorem res35 : Try.f35.results.toList = [.tmp 4] := by kernel_rfl
theorem ext35 : E.ext 35 = none := by kernel_rfl
theorem res36 : Try.f36.results.toList = [.tmp 2] := by kernel_rfl
theorem ext36 : E.ext 36 = none := by kernel_rfl
theorem res37 : Try.f37.results.toList = [.tmp 2] := by kernel_rfl
theorem ext37 : E.ext 37 = none := by kernel_rfl
theorem res39 : Try.f39.results.toList = [.cell 2 41] := by kernel_rfl
theorem ext39 : E.ext 39 = none := by kernel_rfl
theorem lv39_4 : E.lv 39 4 = [⟨1, []⟩, ⟨2, []⟩, ⟨3, [(0, 41, 8)]⟩, ⟨11, []⟩, ⟨12, []⟩, ⟨13, []⟩] := by kernel_rfl
theorem res40 : Try.f40.results.toList = [.cell 4 55] := by kernel_rfl
theorem ext40 : E.ext 40 = none := by kernel_rfl
theorem lv40_5 : E.lv 40 5 = [⟨3, []⟩, ⟨4, []⟩, ⟨5, [(0, 39, 1)]⟩, ⟨33, []⟩, ⟨34, []⟩, ⟨35, []⟩] := by kernel_rfl
theorem lv40_8 : E.lv 40 8 = [⟨3, []⟩, ⟨4, []⟩, ⟨5, [(0, 39, 1)]⟩, ⟨7, []⟩, ⟨33, []⟩, ⟨34, []⟩, ⟨35, []⟩, ⟨40, []⟩, ⟨41, []⟩, ⟨42, []⟩] := by kernel_rfl
theorem res41 : Try.f41.results.toList = [.cell 4 55] := by kernel_rfl
theorem ext41 : E.ext 41 = none := by kernel_rfl
theorem res42 : Try.f42.results.toList = [.tmp 2] := by kernel_rfl
theorem ext42 : E.ext 42 = some .clip := by kernel_rfl
theorem res43 : Try.f43.results.toList = [.tmp 2] := by kernel_rfl
theorem ext43 : E.ext 43 = none := by kernel_rfl
theorem lv43_3 : E.lv 43 3 = [⟨0, []⟩, ⟨3, []⟩, ⟨9, []⟩, ⟨10, []⟩, ⟨11, []⟩] := by kernel_rfl
theorem lv43_11 : E.lv 43 11 = [⟨6, [(0, 41, 8)]⟩, ⟨25, []⟩, ⟨26, []⟩, ⟨27, []⟩] := by kernel_rfl
theorem res44 : Try.f44.results.toList = [.tmp 2] := by kernel_rfl
theorem ext44 : E.ext 44 = none := by kernel_rfl
theorem lv44_3 : E.lv 44 3 = [⟨0, []⟩, ⟨3, []⟩, ⟨9, []⟩, ⟨10, []⟩, ⟨11, []⟩] := by kernel_rfl
theorem lv44_11 : E.lv 44 11 = [⟨6, [(0, 39, 1)]⟩, ⟨25, []⟩, ⟨26, []⟩, ⟨27, []⟩] := by kernel_rfl
theorem res45 : Try.f45.results.toList = [.tmp 4] := by kernel_rfl
theorem ext45 : E.ext 45 = some (.fn (growF 41 8 96)) := by kernel_rfl
theorem res46 : Try.f46.results.toList = [.tmp 4] := by kernel_rfl
theorem ext46 : E.ext 46 = some (.fn (growF 39 1 24)) := by kernel_rfl
attribute [go_sem] siz1 byt1 agg1 zer1 und2 siz2 byt2 agg2 zer2 und3 siz3 byt3 agg3 zer3 und4 siz4 byt4 agg4 zer4 und5 siz5 byt5 agg5 zer5 und9 siz9 byt9 agg9 zer9 und22 siz22 byt22 agg22 zer22 und23 siz23 byt23 agg23 zer23 siz25
attribute [go_sem] byt25 agg25 zer25 fie25_0 fie25_1 fie25_2 pla25 und26 siz26 byt26 agg26 zer26 siz28 byt28 agg28 zer28 fie28_0 pla28 und30 siz30 byt30 agg30 zer30 siz32 byt32 agg32 zer32 fie32_0 fie32_1 fie32_2 fie32_3 pla32 und33 siz33 byt33 agg33 zer33 und34 siz34 byt34
attribute [go_sem] agg34 zer34 siz37 byt37 agg37 zer37 fie37_0 fie37_1 fie37_2 pla37 und39 siz39 byt39 agg39 zer39 siz41 byt41 agg41 zer41 fie41_0 fie41_1 fie41_2 fie41_3 fie41_4 pla41 siz50 byt50 agg50 zer50 und53 siz53 byt53 agg53 zer53 siz55 byt55 agg55 zer55 fie55_0 fie55_1
attribute [go_sem] pla55 und77 siz77 byt77 agg77 zer77 res3 ext3 lv3_7 res4 ext4 res5 ext5 lv5_3 lv5_8 res6 ext6 res7 ext7 res8 ext8 res9 ext9 res10 ext10 res11 ext11 lv11_6 res12 ext12 res13 ext13 res14 ext14 res15 ext15 res16 ext16 res17 ext17
attribute [go_sem] res18 ext18 res19 ext19 res20 ext20 res21 ext21 lv21_2 res22 ext22 res23 ext23 res24 ext24 res25 ext25 res26 ext26 res27 ext27 res28 ext28 res29 ext29 res30 ext30 res31 ext31 res32 ext32 res33 ext33 lv33_5 res34 ext34 res35 ext35 res36 ext36
attribute [go_sem] res37 ext37 res39 ext39 lv39_4 res40 ext40 lv40_5 lv40_8 res41 ext41 res42 ext42 res43 ext43 lv43_3 lv43_11 res44 ext44 lv44_3 lv44_11 res45 ext45 res46 ext46
end Go.Proofs.Ytjhdickfkpcccaa.D
