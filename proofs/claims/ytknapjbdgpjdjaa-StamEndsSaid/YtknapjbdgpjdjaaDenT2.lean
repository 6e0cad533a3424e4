/- What the evaluator asks of the seat's types and functions: rows for simp. -/
import Derived.Test.YtknapjbdgpjdjaaDenT1
import Derived.Test.YtknapjbdgpjdjaaDenK4
namespace Go.Proofs.Ytknapjbdgpjdjaa.D
open Go Go.Den Go.Proofs
theorem siz1 : tSize E.P 1 = some 1 := by kernel_rfl
theorem byt1 : tBytes E.P 1 = some 8 := by kernel_rfl
theorem agg1 : tAgg E.P 1 = some false := by kernel_rfl
theorem zer1 : tZero E.P 1 = some [.nilf] := by kernel_rfl
theorem und2 : E.P.underlying 2 = some (.int .i64) := by kernel_rfl
theorem siz2 : tSize E.P 2 = some 1 := by kernel_rfl
theorem byt2 : tBytes E.P 2 = some 8 := by kernel_rfl
theorem agg2 : tAgg E.P 2 = some false := by kernel_rfl
theorem zer2 : tZero E.P 2 = some [.int .i64 (0)] := by kernel_rfl
theorem und3 : E.P.underlying 3 = some (.int .i64) := by kernel_rfl
theorem siz3 : tSize E.P 3 = some 1 := by kernel_rfl
theorem byt3 : tBytes E.P 3 = some 8 := by kernel_rfl
theorem agg3 : tAgg E.P 3 = some false := by kernel_rfl
theorem zer3 : tZero E.P 3 = some [.int .i64 (0)] := by kernel_rfl
theorem und4 : E.P.underlying 4 = some (.bool) := by kernel_rfl
theorem siz4 : tSize E.P 4 = some 1 := by kernel_rfl
theorem byt4 : tBytes E.P 4 = some 1 := by kernel_rfl
theorem agg4 : tAgg E.P 4 = some false := by kernel_rfl
theorem zer4 : tZero E.P 4 = some [.bool false] := by kernel_rfl
theorem und5 : E.P.underlying 5 = some (.int .u8) := by kernel_rfl
theorem siz5 : tSize E.P 5 = some 1 := by kernel_rfl
theorem byt5 : tBytes E.P 5 = some 1 := by kernel_rfl
theorem agg5 : tAgg E.P 5 = some false := by kernel_rfl
theorem zer5 : tZero E.P 5 = some [.int .u8 (0)] := by kernel_rfl
theorem und12 : E.P.underlying 12 = some (.int .u64) := by kernel_rfl
theorem siz12 : tSize E.P 12 = some 1 := by kernel_rfl
theorem byt12 : tBytes E.P 12 = some 8 := by kernel_rfl
theorem agg12 : tAgg E.P 12 = some false := by kernel_rfl
theorem zer12 : tZero E.P 12 = some [.int .u64 (0)] := by kernel_rfl
theorem und17 : E.P.underlying 17 = some (.pointer 92) := by kernel_rfl
theorem siz17 : tSize E.P 17 = some 1 := by kernel_rfl
theorem byt17 : tBytes E.P 17 = some 8 := by kernel_rfl
theorem agg17 : tAgg E.P 17 = some false := by kernel_rfl
theorem zer17 : tZero E.P 17 = some [.nilp] := by kernel_rfl
theorem siz19 : tSize E.P 19 = some 1 := by kernel_rfl
theorem byt19 : tBytes E.P 19 = some 8 := by kernel_rfl
theorem agg19 : tAgg E.P 19 = some true := by kernel_rfl
theorem zer19 : tZero E.P 19 = some [.nilp] := by kernel_rfl
theorem fie19_0 : tField E.P 19 0 = some (0, 17) := by kernel_rfl
theorem pla19 : tPlaces E.P 19 = some [(0, 1)] := by kernel_rfl
theorem siz23 : tSize E.P 23 = some 4 := by kernel_rfl
theorem byt23 : tBytes E.P 23 = some 32 := by kernel_rfl
theorem agg23 : tAgg E.P 23 = some true := by kernel_rfl
theorem zer23 : tZero E.P 23 = some [.int .i64 (0), .int .i64 (0), .int .i64 (0), .int .i64 (0)] := by kernel_rfl
theorem ins23 : intStruct E.P 23 = some 4 := by kernel_rfl
theorem fie23_0 : tField E.P 23 0 = some (0, 3) := by kernel_rfl
theorem fie23_1 : tField E.P 23 1 = some (1, 3) := by kernel_rfl
theorem fie23_2 : tField E.P 23 2 = some (2, 3) := by kernel_rfl
theorem fie23_3 : tField E.P 23 3 = some (3, 3) := by kernel_rfl
theorem pla23 : tPlaces E.P 23 = some [(0, 1), (1, 1), (2, 1), (3, 1)] := by kernel_rfl
theorem und24 : E.P.underlying 24 = some (.slice 23) := by kernel_rfl
theorem siz24 : tSize E.P 24 = some 1 := by kernel_rfl
theorem byt24 : tBytes E.P 24 = some 24 := by kernel_rfl
theorem agg24 : tAgg E.P 24 = some false := by kernel_rfl
theorem zer24 : tZero E.P 24 = some [.nils] := by kernel_rfl
theorem siz26 : tSize E.P 26 = some 2 := by kernel_rfl
theorem byt26 : tBytes E.P 26 = some 16 := by kernel_rfl
theorem agg26 : tAgg E.P 26 = some true := by kernel_rfl
theorem zer26 : tZero E.P 26 = some [.int .i64 (0), .int .i64 (0)] := by kernel_rfl
theorem ins26 : intStruct E.P 26 = some 2 := by kernel_rfl
theorem fie26_0 : tField E.P 26 0 = some (0, 3) := by kernel_rfl
theorem fie26_1 : tField E.P 26 1 = some (1, 3) := by kernel_rfl
theorem pla26 : tPlaces E.P 26 = some [(0, 1), (1, 1)] := by kernel_rfl
theorem siz28 : tSize E.P 28 = some 7 := by kernel_rfl
theorem byt28 : tBytes E.P 28 = some 56 := by kernel_rfl
theorem agg28 : tAgg E.P 28 = some true := by kernel_rfl
theorem zer28 : tZero E.P 28 = some [.int .i64 (0), .int .i64 (0), .int .i64 (0), .int .i64 (0), .int .i64 (0), .bool false, .int .i64 (0)] := by kernel_rfl
theorem fie28_0 : tField E.P 28 0 = some (0, 26) := by kernel_rfl
theorem fie28_1 : tField E.P 28 1 = some (2, 26) := by kernel_rfl
theorem fie28_2 : tField E.P 28 2 = some (4, 3) := by kernel_rfl
theorem fie28_3 : tField E.P 28 3 = some (5, 4) := by kernel_rfl
theorem fie28_4 : tField E.P 28 4 = some (6, 3) := by kernel_rfl
theorem pla28 : tPlaces E.P 28 = some [(0, 2), (2, 2), (4, 1), (5, 1), (6, 1)] := by kernel_rfl
theorem und29 : E.P.underlying 29 = some (.slice 28) := by kernel_rfl
theorem siz29 : tSize E.P 29 = some 1 := by kernel_rfl
theorem byt29 : tBytes E.P 29 = some 24 := by kernel_rfl
theorem agg29 : tAgg E.P 29 = some false := by kernel_rfl
theorem zer29 : tZero E.P 29 = some [.nils] := by kernel_rfl
theorem und30 : E.P.underlying 30 = some (.slice 3) := by kernel_rfl
theorem siz30 : tSize E.P 30 = some 1 := by kernel_rfl
theorem byt30 : tBytes E.P 30 = some 24 := by kernel_rfl
theorem agg30 : tAgg E.P 30 = some false := by kernel_rfl
theorem zer30 : tZero E.P 30 = some [.nils] := by kernel_rfl
theorem siz34 : tSize E.P 34 = some 4 := by kernel_rfl
theorem byt34 : tBytes E.P 34 = some 32 := by kernel_rfl
theorem agg34 : tAgg E.P 34 = some true := by kernel_rfl
theorem zer34 : tZero E.P 34 = some [.int .i64 (0), .int .i64 (0), .int .i64 (0), .int .i64 (0)] := by kernel_rfl
theorem fie34_0 : tField E.P 34 0 = some (0, 26) := by kernel_rfl
theorem fie34_1 : tField E.P 34 1 = some (2, 26) := by kernel_rfl
theorem pla34 : tPlaces E.P 34 = some [(0, 2), (2, 2)] := by kernel_rfl
theorem und41 : E.P.underlying 41 = some (.int .u64) := by kernel_rfl
theorem siz41 : tSize E.P 41 = some 1 := by kernel_rfl
theorem byt41 : tBytes E.P 41 = some 8 := by kernel_rfl
theorem agg41 : tAgg E.P 41 = some false := by kernel_rfl
theorem zer41 : tZero E.P 41 = some [.int .u64 (0)] := by kernel_rfl
theorem siz50 : tSize E.P 50 = some 1 := by kernel_rfl
theorem byt50 : tBytes E.P 50 = some 8 := by kernel_rfl
theorem agg50 : tAgg E.P 50 = some false := by kernel_rfl
theorem zer50 : tZero E.P 50 = some [.nilf] := by kernel_rfl
theorem und66 : E.P.underlying 66 = some (.int .u32) := by kernel_rfl
theorem siz66 : tSize E.P 66 = some 1 := by kernel_rfl
theorem byt66 : tBytes E.P 66 = some 4 := by kernel_rfl
theorem agg66 : tAgg E.P 66 = some false := by kernel_rfl
theorem zer66 : tZero E.P 66 = some [.int .u32 (0)] := by kernel_rfl
theorem und85 : E.P.underlying 85 = some (.int .u8) := by kernel_rfl
theorem siz85 : tSize E.P 85 = some 1 := by kernel_rfl
theorem byt85 : tBytes E.P 85 = some 1 := by kernel_rfl
theorem agg85 : tAgg E.P 85 = some false := by kernel_rfl
theorem zer85 : tZero E.P 85 = some [.int .u8 (0)] := by kernel_rfl
theorem und86 : E.P.underlying 86 = some (.int .u8) := by kernel_rfl
theorem siz86 : tSize E.P 86 = some 1 := by kernel_rfl
theorem byt86 : tBytes E.P 86 = some 1 := by kernel_rfl
theorem agg86 : tAgg E.P 86 = some false := by kernel_rfl
theorem zer86 : tZero E.P 86 = some [.int .u8 (0)] := by kernel_rfl
theorem siz87 : tSize E.P 87 = some 1 := by kernel_rfl
theorem byt87 : tBytes E.P 87 = some 8 := by kernel_rfl
theorem agg87 : tAgg E.P 87 = some false := by kernel_rfl
theorem zer87 : tZero E.P 87 = some [.nilf] := by kernel_rfl
theorem und88 : E.P.underlying 88 = some (.pointer 5) := by kernel_rfl
theorem siz88 : tSize E.P 88 = some 1 := by kernel_rfl
theorem byt88 : tBytes E.P 88 = some 8 := by kernel_rfl
theorem agg88 : tAgg E.P 88 = some false := by kernel_rfl
theorem zer88 : tZero E.P 88 = some [.nilp] := by kernel_rfl
theorem und89 : E.P.underlying 89 = some (.int .i32) := by kernel_rfl
theorem siz89 : tSize E.P 89 = some 1 := by kernel_rfl
theorem byt89 : tBytes E.P 89 = some 4 := by kernel_rfl
theorem agg89 : tAgg E.P 89 = some false := by kernel_rfl
theorem zer89 : tZero E.P 89 = some [.int .i32 (0)] := by kernel_rfl
theorem und90 : E.P.underlying 90 = some (.int .i32) := by kernel_rfl
theorem siz90 : tSize E.P 90 = some 1 := by kernel_rfl
theorem byt90 : tBytes E.P 90 = some 4 := by kernel_rfl
theorem agg90 : tAgg E.P 90 = some false := by kernel_rfl
theorem zer90 : tZero E.P 90 = some [.int .i32 (0)] := by kernel_rfl
theorem siz92 : tSize E.P 92 = some 11 := by kernel_rfl
theorem byt92 : tBytes E.P 92 = some 48 := by kernel_rfl
theorem agg92 : tAgg E.P 92 = some true := by kernel_rfl
theorem zer92 : tZero E.P 92 = some [.int .u64 (0), .int .u64 (0), .int .u32 (0), .int .u8 (0), .int .u8 (0), .int .u8 (0), .int .u8 (0), .nilf, .nilp, .int .i32 (0), .int .i32 (0)] := by kernel_rfl
theorem fie92_0 : tField E.P 92 0 = some (0, 12) := by kernel_rfl
theorem fie92_1 : tField E.P 92 1 = some (1, 12) := by kernel_rfl
theorem fie92_2 : tField E.P 92 2 = some (2, 66) := by kernel_rfl
theorem fie92_3 : tField E.P 92 3 = some (3, 85) := by kernel_rfl
theorem fie92_4 : tField E.P 92 4 = some (4, 5) := by kernel_rfl
theorem fie92_5 : tField E.P 92 5 = some (5, 5) := by kernel_rfl
theorem fie92_6 : tField E.P 92 6 = some (6, 86) := by kernel_rfl
theorem fie92_7 : tField E.P 92 7 = some (7, 87) := by kernel_rfl
theorem fie92_8 : tField E.P 92 8 = some (8, 88) := by kernel_rfl
theorem fie92_9 : tField E.P 92 9 = some (9, 89) := by kernel_rfl
theorem fie92_10 : tField E.P 92 10 = some (10, 90) := by kernel_rfl
theorem pla92 : tPlaces E.P 92 = some [(0, 1), (1, 1), (2, 1), (3, 1), (4, 1), (5, 1), (6, 1), (7, 1), (8, 1), (9, 1), (10, 1)] := by kernel_rfl
theorem res3 : Try.f3.results.toList = [.tmp 2] := by kernel_rfl
theorem ext3 : E.ext 3 = none := by kernel_rfl
theorem res4 : Try.f4.results.toList = [.tmp 6] := by kernel_rfl
theorem ext4 : E.ext 4 = none := by kernel_rfl
theorem res5 : Try.f5.results.toList = [.tmp 8] := by kernel_rfl
theorem ext5 : E.ext 5 = none := by kernel_rfl
theorem res6 : Try.f6.results.toList = [.tmp 4] := by kernel_rfl
theorem ext6 : E.ext 6 = none := by kernel_rfl
theorem lv6_4 : E.lv 6 4 = [⟨0, []⟩, ⟨16, []⟩, ⟨17, []⟩, ⟨18, []⟩] := by kernel_rfl
theorem lv6_8 : E.lv 6 8 = [⟨0, []⟩, ⟨6, []⟩, ⟨7, []⟩, ⟨8, []⟩, ⟨16, []⟩, ⟨17, []⟩, ⟨18, []⟩] := by kernel_rfl
theorem res7 : Try.f7.results.toList = [.tmp 6] := by kernel_rfl
theorem ext7 : E.ext 7 = none := by kernel_rfl
theorem lv7_7 : E.lv 7 7 = [⟨2, []⟩, ⟨7, []⟩, ⟨8, []⟩, ⟨9, []⟩, ⟨10, []⟩, ⟨40, []⟩, ⟨41, []⟩] := by kernel_rfl
theorem lv7_10 : E.lv 7 10 = [⟨2, []⟩, ⟨7, []⟩, ⟨8, []⟩, ⟨9, []⟩, ⟨10, []⟩, ⟨11, []⟩, ⟨40, []⟩, ⟨41, []⟩, ⟨44, []⟩, ⟨45, []⟩, ⟨46, []⟩] := by kernel_rfl
theorem res8 : Try.f8.results.toList = [.cell 2 26] := by kernel_rfl
theorem ext8 : E.ext 8 = none := by kernel_rfl
theorem res9 : Try.f9.results.toList = [.cell 2 26] := by kernel_rfl
theorem ext9 : E.ext 9 = none := by kernel_rfl
theorem res10 : Try.f10.results.toList = [.tmp 8, .tmp 9] := by kernel_rfl
theorem ext10 : E.ext 10 = none := by kernel_rfl
theorem res11 : Try.f11.results.toList = [.tmp 0] := by kernel_rfl
theorem ext11 : E.ext 11 = none := by kernel_rfl
theorem res12 : Try.f12.results.toList = [.tmp 2] := by kernel_rfl
theorem ext12 : E.ext 12 = none := by kernel_rfl
theorem lv12_3 : E.lv 12 3 = [⟨0, []⟩, ⟨3, [(0, 23, 4)]⟩, ⟨4, []⟩] := by kernel_rfl
theorem res13 : Try.f13.results.toList = [.tmp 8, .tmp 9] := by kernel_rfl
theorem ext13 : E.ext 13 = none := by kernel_rfl
theorem res14 : Try.f14.results.toList = [.cell 2 26] := by kernel_rfl
theorem ext14 : E.ext 14 = none := by kernel_rfl
theorem res15 : Try.f15.results.toList = [.tmp 4] := by kernel_rfl
theorem ext15 : E.ext 15 = none := by kernel_rfl
theorem lv15_4 : E.lv 15 4 = [⟨0, []⟩, ⟨1, []⟩, ⟨5, []⟩] := by kernel_rfl
theorem res16 : Try.f16.results.toList = [.tmp 6] := by kernel_rfl
theorem ext16 : E.ext 16 = none := by kernel_rfl
theorem res17 : Try.f17.results.toList = [.tmp 3] := by kernel_rfl
theorem ext17 : E.ext 17 = none := by kernel_rfl
theorem res18 : Try.f18.results.toList = [.cell 4 23] := by kernel_rfl
theorem ext18 : E.ext 18 = none := by kernel_rfl
theorem res19 : Try.f19.results.toList = [.tmp 10, .tmp 11] := by kernel_rfl
theorem ext19 : E.ext 19 = none := by kernel_rfl
theorem res20 : Try.f20.results.toList = [.cell 2 34] := by kernel_rfl
theorem ext20 : E.ext 20 = none := by kernel_rfl
theorem res21 : Try.f21.results.toList = [.tmp 2] := by kernel_rfl
theorem ext21 : E.ext 21 = none := by kernel_rfl
theorem res22 : Try.f22.results.toList = [.tmp 4] := by kernel_rfl
theorem ext22 : E.ext 22 = none := by kernel_rfl
theorem lv22_2 : E.lv 22 2 = [⟨0, []⟩, ⟨1, []⟩, ⟨7, []⟩, ⟨8, []⟩] := by kernel_rfl
theorem res23 : Try.f23.results.toList = [.tmp 3] := by kernel_rfl
theorem ext23 : E.ext 23 = none := by kernel_rfl
theorem res24 : Try.f24.results.toList = [.tmp 6, .tmp 7] := by kernel_rfl
theorem ext24 : E.ext 24 = none := by kernel_rfl
theorem res25 : Try.f25.results.toList = [] := by kernel_rfl
theorem ext25 : E.ext 25 = some (.rw false sortG) := by kernel_rfl
theorem res26 : Try.f26.results.toList = [.tmp 2] := by kernel_rfl
theorem ext26 : E.ext 26 = some (.rw true compactG) := by kernel_rfl
attribute [go_sem] siz1 byt1 agg1 zer1 und2 siz2 byt2 agg2 zer2 und3 siz3 byt3 agg3 zer3 und4 siz4 byt4 agg4 zer4 und5 siz5 byt5 agg5 zer5 und12 siz12 byt12 agg12 zer12 und17 siz17 byt17 agg17 zer17 siz19 byt19 agg19 zer19 fie19_0 pla19
attribute [go_sem] siz23 byt23 agg23 zer23 ins23 fie23_0 fie23_1 fie23_2 fie23_3 pla23 und24 siz24 byt24 agg24 zer24 siz26 byt26 agg26 zer26 ins26 fie26_0 fie26_1 pla26 siz28 byt28 agg28 zer28 fie28_0 fie28_1 fie28_2 fie28_3 fie28_4 pla28 und29 siz29 byt29 agg29 zer29 und30 siz30
attribute [go_sem] byt30 agg30 zer30 siz34 byt34 agg34 zer34 fie34_0 fie34_1 pla34 und41 siz41 byt41 agg41 zer41 siz50 byt50 agg50 zer50 und66 siz66 byt66 agg66 zer66 und85 siz85 byt85 agg85 zer85 und86 siz86 byt86 agg86 zer86 siz87 byt87 agg87 zer87 und88 siz88
attribute [go_sem] byt88 agg88 zer88 und89 siz89 byt89 agg89 zer89 und90 siz90 byt90 agg90 zer90 siz92 byt92 agg92 zer92 fie92_0 fie92_1 fie92_2 fie92_3 fie92_4 fie92_5 fie92_6 fie92_7 fie92_8 fie92_9 fie92_10 pla92 res3 ext3 res4 ext4 res5 ext5 res6 ext6 lv6_4 lv6_8 res7
attribute [go_sem] ext7 lv7_7 lv7_10 res8 ext8 res9 ext9 res10 ext10 res11 ext11 res12 ext12 lv12_3 res13 ext13 res14 ext14 res15 ext15 lv15_4 res16 ext16 res17 ext17 res18 ext18 res19 ext19 res20 ext20 res21 ext21 res22 ext22 lv22_2 res23 ext23 res24 ext24
attribute [go_sem] res25 ext25 res26 ext26
end Go.Proofs.Ytknapjbdgpjdjaa.D
