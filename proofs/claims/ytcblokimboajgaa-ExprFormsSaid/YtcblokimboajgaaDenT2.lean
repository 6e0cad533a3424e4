/- What the evaluator asks of the seat's types and functions: rows for simp. -/
import Derived.Test.YtcblokimboajgaaDenT1
import Derived.Test.YtcblokimboajgaaDenK4
namespace Go.Proofs.Ytcblokimboajgaa.D
open Go Go.Den Go.Proofs
theorem siz1 : tSize E.P 1 = some 1 := by kernel_rfl
theorem byt1 : tBytes E.P 1 = some 8 := by kernel_rfl
theorem agg1 : tAgg E.P 1 = some false := by kernel_rfl
theorem zer1 : tZero E.P 1 = some [.nilf] := by kernel_rfl
theorem und2 : E.P.underlying 2 = some (.int .i64) := by kernel_rfl
theorem siz2 : tSize E.P 2 = some 1 := by kernel_rfl
theorem byt2 : tBytes E.P 2 = some 8 := by kernel_rfl
theorem agg2 : tAgg E.P 2 = some false := by kernel_rfl
theorem zer2 : tZero E.P 2 = some [.int .i64 (0)] := by kernel_rfl
theorem und3 : E.P.underlying 3 = some (.int .i64) := by kernel_rfl
theorem siz3 : tSize E.P 3 = some 1 := by kernel_rfl
theorem byt3 : tBytes E.P 3 = some 8 := by kernel_rfl
theorem agg3 : tAgg E.P 3 = some false := by kernel_rfl
theorem zer3 : tZero E.P 3 = some [.int .i64 (0)] := by kernel_rfl
theorem und4 : E.P.underlying 4 = some (.bool) := by kernel_rfl
theorem siz4 : tSize E.P 4 = some 1 := by kernel_rfl
theorem byt4 : tBytes E.P 4 = some 1 := by kernel_rfl
theorem agg4 : tAgg E.P 4 = some false := by kernel_rfl
theorem zer4 : tZero E.P 4 = some [.bool false] := by kernel_rfl
theorem und5 : E.P.underlying 5 = some (.int .u8) := by kernel_rfl
theorem siz5 : tSize E.P 5 = some 1 := by kernel_rfl
theorem byt5 : tBytes E.P 5 = some 1 := by kernel_rfl
theorem agg5 : tAgg E.P 5 = some false := by kernel_rfl
theorem zer5 : tZero E.P 5 = some [.int .u8 (0)] := by kernel_rfl
theorem und6 : E.P.underlying 6 = some (.int .u8) := by kernel_rfl
theorem siz6 : tSize E.P 6 = some 1 := by kernel_rfl
theorem byt6 : tBytes E.P 6 = some 1 := by kernel_rfl
theorem agg6 : tAgg E.P 6 = some false := by kernel_rfl
theorem zer6 : tZero E.P 6 = some [.int .u8 (0)] := by kernel_rfl
theorem siz8 : tSize E.P 8 = some 4 := by kernel_rfl
theorem byt8 : tBytes E.P 8 = some 24 := by kernel_rfl
theorem agg8 : tAgg E.P 8 = some true := by kernel_rfl
theorem zer8 : tZero E.P 8 = some [.int .i64 (0), .int .i64 (0), .bool false, .int .u8 (0)] := by kernel_rfl
theorem fie8_0 : tField E.P 8 0 = some (0, 2) := by kernel_rfl
theorem fie8_1 : tField E.P 8 1 = some (1, 3) := by kernel_rfl
theorem fie8_2 : tField E.P 8 2 = some (2, 4) := by kernel_rfl
theorem fie8_3 : tField E.P 8 3 = some (3, 6) := by kernel_rfl
theorem pla8 : tPlaces E.P 8 = some [(0, 1), (1, 1), (2, 1), (3, 1)] := by kernel_rfl
theorem und9 : E.P.underlying 9 = some (.string) := by kernel_rfl
theorem siz9 : tSize E.P 9 = some 1 := by kernel_rfl
theorem byt9 : tBytes E.P 9 = some 16 := by kernel_rfl
theorem agg9 : tAgg E.P 9 = some false := by kernel_rfl
theorem zer9 : tZero E.P 9 = some [.str []] := by kernel_rfl
theorem siz23 : tSize E.P 23 = some 3 := by kernel_rfl
theorem byt23 : tBytes E.P 23 = some 32 := by kernel_rfl
theorem agg23 : tAgg E.P 23 = some true := by kernel_rfl
theorem zer23 : tZero E.P 23 = some [.str [], .int .i64 (0), .bool false] := by kernel_rfl
theorem fie23_0 : tField E.P 23 0 = some (0, 9) := by kernel_rfl
theorem fie23_1 : tField E.P 23 1 = some (1, 3) := by kernel_rfl
theorem fie23_2 : tField E.P 23 2 = some (2, 4) := by kernel_rfl
theorem pla23 : tPlaces E.P 23 = some [(0, 1), (1, 1), (2, 1)] := by kernel_rfl
theorem und24 : E.P.underlying 24 = some (.slice 23) := by kernel_rfl
theorem siz24 : tSize E.P 24 = some 1 := by kernel_rfl
theorem byt24 : tBytes E.P 24 = some 24 := by kernel_rfl
theorem agg24 : tAgg E.P 24 = some false := by kernel_rfl
theorem zer24 : tZero E.P 24 = some [.nils] := by kernel_rfl
theorem siz26 : tSize E.P 26 = some 1 := by kernel_rfl
theorem byt26 : tBytes E.P 26 = some 24 := by kernel_rfl
theorem agg26 : tAgg E.P 26 = some true := by kernel_rfl
theorem zer26 : tZero E.P 26 = some [.nils] := by kernel_rfl
theorem fie26_0 : tField E.P 26 0 = some (0, 24) := by kernel_rfl
theorem pla26 : tPlaces E.P 26 = some [(0, 1)] := by kernel_rfl
theorem und27 : E.P.underlying 27 = some (.slice 5) := by kernel_rfl
theorem siz27 : tSize E.P 27 = some 1 := by kernel_rfl
theorem byt27 : tBytes E.P 27 = some 24 := by kernel_rfl
theorem agg27 : tAgg E.P 27 = some false := by kernel_rfl
theorem zer27 : tZero E.P 27 = some [.nils] := by kernel_rfl
theorem siz29 : tSize E.P 29 = some 4 := by kernel_rfl
theorem byt29 : tBytes E.P 29 = some 48 := by kernel_rfl
theorem agg29 : tAgg E.P 29 = some true := by kernel_rfl
theorem zer29 : tZero E.P 29 = some [.bool false, .int .i64 (0), .int .i64 (0), .nils] := by kernel_rfl
theorem fie29_0 : tField E.P 29 0 = some (0, 4) := by kernel_rfl
theorem fie29_1 : tField E.P 29 1 = some (1, 3) := by kernel_rfl
theorem fie29_2 : tField E.P 29 2 = some (2, 2) := by kernel_rfl
theorem fie29_3 : tField E.P 29 3 = some (3, 27) := by kernel_rfl
theorem pla29 : tPlaces E.P 29 = some [(0, 1), (1, 1), (2, 1), (3, 1)] := by kernel_rfl
theorem und30 : E.P.underlying 30 = some (.slice 32) := by kernel_rfl
theorem siz30 : tSize E.P 30 = some 1 := by kernel_rfl
theorem byt30 : tBytes E.P 30 = some 24 := by kernel_rfl
theorem agg30 : tAgg E.P 30 = some false := by kernel_rfl
theorem zer30 : tZero E.P 30 = some [.nils] := by kernel_rfl
theorem siz32 : tSize E.P 32 = some 8 := by kernel_rfl
theorem byt32 : tBytes E.P 32 = some 96 := by kernel_rfl
theorem agg32 : tAgg E.P 32 = some true := by kernel_rfl
theorem zer32 : tZero E.P 32 = some [.int .i64 (0), .int .i64 (0), .int .i64 (0), .bool false, .int .i64 (0), .int .i64 (0), .nils, .nils] := by kernel_rfl
theorem fie32_0 : tField E.P 32 0 = some (0, 3) := by kernel_rfl
theorem fie32_1 : tField E.P 32 1 = some (1, 3) := by kernel_rfl
theorem fie32_2 : tField E.P 32 2 = some (2, 3) := by kernel_rfl
theorem fie32_3 : tField E.P 32 3 = some (3, 29) := by kernel_rfl
theorem fie32_4 : tField E.P 32 4 = some (7, 30) := by kernel_rfl
theorem pla32 : tPlaces E.P 32 = some [(0, 1), (1, 1), (2, 1), (3, 4), (7, 1)] := by kernel_rfl
theorem und33 : E.P.underlying 33 = some (.slice 45) := by kernel_rfl
theorem siz33 : tSize E.P 33 = some 1 := by kernel_rfl
theorem byt33 : tBytes E.P 33 = some 24 := by kernel_rfl
theorem agg33 : tAgg E.P 33 = some false := by kernel_rfl
theorem zer33 : tZero E.P 33 = some [.nils] := by kernel_rfl
theorem und34 : E.P.underlying 34 = some (.slice 29) := by kernel_rfl
theorem siz34 : tSize E.P 34 = some 1 := by kernel_rfl
theorem byt34 : tBytes E.P 34 = some 24 := by kernel_rfl
theorem agg34 : tAgg E.P 34 = some false := by kernel_rfl
theorem zer34 : tZero E.P 34 = some [.nils] := by kernel_rfl
theorem und35 : E.P.underlying 35 = some (.slice 3) := by kernel_rfl
theorem siz35 : tSize E.P 35 = some 1 := by kernel_rfl
theorem byt35 : tBytes E.P 35 = some 24 := by kernel_rfl
theorem agg35 : tAgg E.P 35 = some false := by kernel_rfl
theorem zer35 : tZero E.P 35 = some [.nils] := by kernel_rfl
theorem und36 : E.P.underlying 36 = some (.slice 42) := by kernel_rfl
theorem siz36 : tSize E.P 36 = some 1 := by kernel_rfl
theorem byt36 : tBytes E.P 36 = some 24 := by kernel_rfl
theorem agg36 : tAgg E.P 36 = some false := by kernel_rfl
theorem zer36 : tZero E.P 36 = some [.nils] := by kernel_rfl
theorem siz38 : tSize E.P 38 = some 14 := by kernel_rfl
theorem byt38 : tBytes E.P 38 = some 208 := by kernel_rfl
theorem agg38 : tAgg E.P 38 = some true := by kernel_rfl
theorem zer38 : tZero E.P 38 = some [.int .i64 (0), .nils, .int .i64 (0), .int .i64 (0), .int .i64 (0), .bool false, .int .i64 (0), .int .i64 (0), .nils, .nils, .nils, .nils, .int .i64 (0), .nils] := by kernel_rfl
theorem fie38_0 : tField E.P 38 0 = some (0, 3) := by kernel_rfl
theorem fie38_1 : tField E.P 38 1 = some (1, 34) := by kernel_rfl
theorem fie38_2 : tField E.P 38 2 = some (2, 32) := by kernel_rfl
theorem fie38_3 : tField E.P 38 3 = some (10, 33) := by kernel_rfl
theorem fie38_4 : tField E.P 38 4 = some (11, 35) := by kernel_rfl
theorem fie38_5 : tField E.P 38 5 = some (12, 3) := by kernel_rfl
theorem fie38_6 : tField E.P 38 6 = some (13, 36) := by kernel_rfl
theorem pla38 : tPlaces E.P 38 = some [(0, 1), (1, 1), (2, 8), (10, 1), (11, 1), (12, 1), (13, 1)] := by kernel_rfl
theorem siz42 : tSize E.P 42 = some 2 := by kernel_rfl
theorem byt42 : tBytes E.P 42 = some 16 := by kernel_rfl
theorem agg42 : tAgg E.P 42 = some true := by kernel_rfl
theorem zer42 : tZero E.P 42 = some [.int .i64 (0), .int .i64 (0)] := by kernel_rfl
theorem fie42_0 : tField E.P 42 0 = some (0, 3) := by kernel_rfl
theorem fie42_1 : tField E.P 42 1 = some (1, 3) := by kernel_rfl
theorem pla42 : tPlaces E.P 42 = some [(0, 1), (1, 1)] := by kernel_rfl
theorem siz43 : tSize E.P 43 = some 15 := by kernel_rfl
theorem byt43 : tBytes E.P 43 = some 216 := by kernel_rfl
theorem agg43 : tAgg E.P 43 = some true := by kernel_rfl
theorem zer43 : tZero E.P 43 = some [.int .i64 (0), .nils, .int .i64 (0), .int .i64 (0), .int .i64 (0), .bool false, .int .i64 (0), .int .i64 (0), .nils, .nils, .nils, .nils, .int .i64 (0), .nils, .bool false] := by kernel_rfl
theorem fie43_0 : tField E.P 43 0 = some (0, 38) := by kernel_rfl
theorem fie43_1 : tField E.P 43 1 = some (14, 4) := by kernel_rfl
theorem pla43 : tPlaces E.P 43 = some [(0, 14), (14, 1)] := by kernel_rfl
theorem siz45 : tSize E.P 45 = some 6 := by kernel_rfl
theorem byt45 : tBytes E.P 45 = some 64 := by kernel_rfl
theorem agg45 : tAgg E.P 45 = some true := by kernel_rfl
theorem zer45 : tZero E.P 45 = some [.int .i64 (0), .bool false, .bool false, .int .i64 (0), .int .i64 (0), .nils] := by kernel_rfl
theorem fie45_0 : tField E.P 45 0 = some (0, 3) := by kernel_rfl
theorem fie45_1 : tField E.P 45 1 = some (1, 4) := by kernel_rfl
theorem fie45_2 : tField E.P 45 2 = some (2, 29) := by kernel_rfl
theorem pla45 : tPlaces E.P 45 = some [(0, 1), (1, 1), (2, 4)] := by kernel_rfl
theorem und46 : E.P.underlying 46 = some (.slice 43) := by kernel_rfl
theorem siz46 : tSize E.P 46 = some 1 := by kernel_rfl
theorem byt46 : tBytes E.P 46 = some 24 := by kernel_rfl
theorem agg46 : tAgg E.P 46 = some false := by kernel_rfl
theorem zer46 : tZero E.P 46 = some [.nils] := by kernel_rfl
theorem siz50 : tSize E.P 50 = some 1 := by kernel_rfl
theorem byt50 : tBytes E.P 50 = some 8 := by kernel_rfl
theorem agg50 : tAgg E.P 50 = some false := by kernel_rfl
theorem zer50 : tZero E.P 50 = some [.nilf] := by kernel_rfl
theorem und52 : E.P.underlying 52 = some (.slice 38) := by kernel_rfl
theorem siz52 : tSize E.P 52 = some 1 := by kernel_rfl
theorem byt52 : tBytes E.P 52 = some 24 := by kernel_rfl
theorem agg52 : tAgg E.P 52 = some false := by kernel_rfl
theorem zer52 : tZero E.P 52 = some [.nils] := by kernel_rfl
theorem und53 : E.P.underlying 53 = some (.int .u64) := by kernel_rfl
theorem siz53 : tSize E.P 53 = some 1 := by kernel_rfl
theorem byt53 : tBytes E.P 53 = some 8 := by kernel_rfl
theorem agg53 : tAgg E.P 53 = some false := by kernel_rfl
theorem zer53 : tZero E.P 53 = some [.int .u64 (0)] := by kernel_rfl
theorem siz68 : tSize E.P 68 = some 1 := by kernel_rfl
theorem byt68 : tBytes E.P 68 = some 8 := by kernel_rfl
theorem agg68 : tAgg E.P 68 = some false := by kernel_rfl
theorem zer68 : tZero E.P 68 = some [.nilf] := by kernel_rfl
theorem siz71 : tSize E.P 71 = some 1 := by kernel_rfl
theorem byt71 : tBytes E.P 71 = some 8 := by kernel_rfl
theorem agg71 : tAgg E.P 71 = some false := by kernel_rfl
theorem zer71 : tZero E.P 71 = some [.nilf] := by kernel_rfl
theorem und72 : E.P.underlying 72 = some (.slice 9) := by kernel_rfl
theorem siz72 : tSize E.P 72 = some 1 := by kernel_rfl
theorem byt72 : tBytes E.P 72 = some 24 := by kernel_rfl
theorem agg72 : tAgg E.P 72 = some false := by kernel_rfl
theorem zer72 : tZero E.P 72 = some [.nils] := by kernel_rfl
theorem und81 : E.P.underlying 81 = some (.pointer 3) := by kernel_rfl
theorem siz81 : tSize E.P 81 = some 1 := by kernel_rfl
theorem byt81 : tBytes E.P 81 = some 8 := by kernel_rfl
theorem agg81 : tAgg E.P 81 = some false := by kernel_rfl
theorem zer81 : tZero E.P 81 = some [.nilp] := by kernel_rfl
theorem siz83 : tSize E.P 83 = some 1 := by kernel_rfl
theorem byt83 : tBytes E.P 83 = some 8 := by kernel_rfl
theorem agg83 : tAgg E.P 83 = some false := by kernel_rfl
theorem zer83 : tZero E.P 83 = some [.nilf] := by kernel_rfl
theorem siz90 : tSize E.P 90 = some 1 := by kernel_rfl
theorem byt90 : tBytes E.P 90 = some 8 := by kernel_rfl
theorem agg90 : tAgg E.P 90 = some false := by kernel_rfl
theorem zer90 : tZero E.P 90 = some [.nilf] := by kernel_rfl
theorem res3 : Try.f3.results.toList = [.tmp 2] := by kernel_rfl
theorem ext3 : E.ext 3 = none := by kernel_rfl
theorem res4 : Try.f4.results.toList = [.tmp 6] := by kernel_rfl
theorem ext4 : E.ext 4 = none := by kernel_rfl
theorem lv4_5 : E.lv 4 5 = [⟨1, []⟩, ⟨2, []⟩, ⟨7, []⟩, ⟨8, [(0, 38, 14)]⟩, ⟨9, []⟩] := by kernel_rfl
theorem res5 : Try.f5.results.toList = [.tmp 10] := by kernel_rfl
theorem ext5 : E.ext 5 = none := by kernel_rfl
theorem lv5_22 : E.lv 5 22 = [⟨0, []⟩, ⟨2, []⟩, ⟨3, []⟩, ⟨11, []⟩, ⟨12, []⟩, ⟨118, []⟩, ⟨119, []⟩, ⟨120, []⟩] := by kernel_rfl
theorem res6 : Try.f6.results.toList = [.cell 3 38] := by kernel_rfl
theorem ext6 : E.ext 6 = some .keep := by kernel_rfl
theorem res7 : Try.f7.results.toList = [.cell 5 38] := by kernel_rfl
theorem ext7 : E.ext 7 = some .keep := by kernel_rfl
theorem res8 : Try.f8.results.toList = [.tmp 4] := by kernel_rfl
theorem ext8 : E.ext 8 = none := by kernel_rfl
theorem res9 : Try.f9.results.toList = [.tmp 4] := by kernel_rfl
theorem ext9 : E.ext 9 = none := by kernel_rfl
theorem res10 : Try.f10.results.toList = [.tmp 0] := by kernel_rfl
theorem ext10 : E.ext 10 = none := by kernel_rfl
theorem res11 : Try.f11.results.toList = [.cell 2 26] := by kernel_rfl
theorem ext11 : E.ext 11 = none := by kernel_rfl
theorem lv11_4 : E.lv 11 4 = [⟨0, []⟩, ⟨2, []⟩, ⟨3, []⟩, ⟨4, []⟩, ⟨5, []⟩] := by kernel_rfl
theorem res12 : Try.f12.results.toList = [.cell 6 38] := by kernel_rfl
theorem ext12 : E.ext 12 = none := by kernel_rfl
theorem res13 : Try.f13.results.toList = [.tmp 2] := by kernel_rfl
theorem ext13 : E.ext 13 = none := by kernel_rfl
theorem lv13_3 : E.lv 13 3 = [⟨3, []⟩, ⟨7, []⟩, ⟨8, []⟩, ⟨9, []⟩] := by kernel_rfl
theorem res14 : Try.f14.results.toList = [.tmp 4] := by kernel_rfl
theorem ext14 : E.ext 14 = none := by kernel_rfl
theorem lv14_11 : E.lv 14 11 = [⟨2, []⟩, ⟨3, []⟩, ⟨5, []⟩, ⟨6, []⟩] := by kernel_rfl
theorem res15 : Try.f15.results.toList = [.tmp 6] := by kernel_rfl
theorem ext15 : E.ext 15 = none := by kernel_rfl
theorem lv15_3 : E.lv 15 3 = [⟨1, []⟩, ⟨2, []⟩, ⟨3, []⟩, ⟨7, [(0, 38, 14)]⟩, ⟨8, []⟩] := by kernel_rfl
theorem res16 : Try.f16.results.toList = [.tmp 4] := by kernel_rfl
theorem ext16 : E.ext 16 = none := by kernel_rfl
theorem lv16_2 : E.lv 16 2 = [⟨1, []⟩, ⟨2, []⟩, ⟨5, []⟩] := by kernel_rfl
theorem res17 : Try.f17.results.toList = [.tmp 2] := by kernel_rfl
theorem ext17 : E.ext 17 = none := by kernel_rfl
theorem lv17_2 : E.lv 17 2 = [⟨1, []⟩, ⟨3, []⟩] := by kernel_rfl
theorem lv17_8 : E.lv 17 8 = [⟨1, []⟩, ⟨3, []⟩, ⟨4, []⟩, ⟨5, []⟩] := by kernel_rfl
theorem res18 : Try.f18.results.toList = [.tmp 12] := by kernel_rfl
theorem ext18 : E.ext 18 = none := by kernel_rfl
theorem res19 : Try.f19.results.toList = [.tmp 4] := by kernel_rfl
theorem ext19 : E.ext 19 = none := by kernel_rfl
theorem lv19_4 : E.lv 19 4 = [⟨1, []⟩, ⟨14, []⟩, ⟨15, []⟩, ⟨16, []⟩] := by kernel_rfl
theorem res20 : Try.f20.results.toList = [.tmp 4] := by kernel_rfl
theorem ext20 : E.ext 20 = none := by kernel_rfl
theorem res21 : Try.f21.results.toList = [.tmp 4] := by kernel_rfl
theorem ext21 : E.ext 21 = none := by kernel_rfl
theorem lv21_2 : E.lv 21 2 = [⟨1, []⟩, ⟨2, []⟩, ⟨8, []⟩, ⟨9, []⟩, ⟨10, []⟩] := by kernel_rfl
theorem res22 : Try.f22.results.toList = [.tmp 3] := by kernel_rfl
theorem ext22 : E.ext 22 = none := by kernel_rfl
theorem res23 : Try.f23.results.toList = [.tmp 4] := by kernel_rfl
theorem ext23 : E.ext 23 = none := by kernel_rfl
theorem res24 : Try.f24.results.toList = [.tmp 4] := by kernel_rfl
theorem ext24 : E.ext 24 = none := by kernel_rfl
theorem res25 : Try.f25.results.toList = [.tmp 3] := by kernel_rfl
theorem ext25 : E.ext 25 = none := by kernel_rfl
theorem res26 : Try.f26.results.toList = [.tmp 4] := by kernel_rfl
theorem ext26 : E.ext 26 = none := by kernel_rfl
theorem res27 : Try.f27.results.toList = [.tmp 4] := by kernel_rfl
theorem ext27 : E.ext 27 = none := by kernel_rfl
theorem res28 : Try.f28.results.toList = [.tmp 4] := by kernel_rfl
theorem ext28 : E.ext 28 = none := by kernel_rfl
theorem res29 : Try.f29.results.toList = [.tmp 3] := by kernel_rfl
theorem ext29 : E.ext 29 = none := by kernel_rfl
theorem res30 : Try.f30.results.toList = [.cell 8 32] := by kernel_rfl
theorem ext30 : E.ext 30 = none := by kernel_rfl
theorem lv30_17 : E.lv 30 17 = [⟨1, []⟩, ⟨2, []⟩, ⟨3, []⟩, ⟨4, []⟩, ⟨8, []⟩, ⟨9, []⟩, ⟨12, []⟩, ⟨13, []⟩] := by kernel_rfl
theorem res31 : Try.f31.results.toList = [.tmp 4] := by kernel_rfl
theorem ext31 : E.ext 31 = none := by kernel_rfl
theorem lv31_3 : E.lv 31 3 = [⟨1, []⟩, ⟨5, [(0, 29, 4)]⟩, ⟨9, []⟩, ⟨10, []⟩, ⟨11, []⟩] := by kernel_rfl
theorem res32 : Try.f32.results.toList = [.cell 4 29] := by kernel_rfl
theorem ext32 : E.ext 32 = none := by kernel_rfl
theorem res33 : Try.f33.results.toList = [.tmp 4] := by kernel_rfl
theorem ext33 : E.ext 33 = none := by kernel_rfl
theorem res34 : Try.f34.results.toList = [.tmp 12] := by kernel_rfl
theorem ext34 : E.ext 34 = none := by kernel_rfl
theorem res35 : Try.f35.results.toList = [.tmp 4] := by kernel_rfl
theorem ext35 : E.ext 35 = none := by kernel_rfl
theorem lv35_4 : E.lv 35 4 = [⟨1, []⟩, ⟨2, []⟩, ⟨5, []⟩] := by kernel_rfl
theorem res36 : Try.f36.results.toList = [.tmp 4] := by kernel_rfl
theorem ext36 : E.ext 36 = none := by kernel_rfl
theorem lv36_2 : E.lv 36 2 = [⟨1, []⟩, ⟨2, []⟩, ⟨5, []⟩] := by kernel_rfl
theorem lv36_8 : E.lv 36 8 = [⟨1, []⟩, ⟨2, []⟩, ⟨5, []⟩, ⟨6, []⟩, ⟨7, []⟩] := by kernel_rfl
theorem res37 : Try.f37.results.toList = [.tmp 4] := by kernel_rfl
theorem ext37 : E.ext 37 = none := by kernel_rfl
theorem res38 : Try.f38.results.toList = [.tmp 4] := by kernel_rfl
theorem ext38 : E.ext 38 = none := by kernel_rfl
theorem lv38_2 : E.lv 38 2 = [⟨1, []⟩, ⟨2, []⟩, ⟨5, []⟩] := by kernel_rfl
theorem res39 : Try.f39.results.toList = [.tmp 2] := by kernel_rfl
theorem ext39 : E.ext 39 = none := by kernel_rfl
theorem lv39_2 : E.lv 39 2 = [⟨0, []⟩, ⟨3, []⟩] := by kernel_rfl
theorem res40 : Try.f40.results.toList = [.tmp 2] := by kernel_rfl
theorem ext40 : E.ext 40 = none := by kernel_rfl
theorem res41 : Try.f41.results.toList = [.tmp 4] := by kernel_rfl
theorem ext41 : E.ext 41 = none := by kernel_rfl
theorem res42 : Try.f42.results.toList = [.tmp 8] := by kernel_rfl
theorem ext42 : E.ext 42 = none := by kernel_rfl
theorem lv42_5 : E.lv 42 5 = [⟨2, []⟩, ⟨3, []⟩, ⟨4, []⟩, ⟨31, []⟩, ⟨32, []⟩, ⟨33, []⟩] := by kernel_rfl
theorem res43 : Try.f43.results.toList = [.tmp 4] := by kernel_rfl
theorem ext43 : E.ext 43 = none := by kernel_rfl
theorem res44 : Try.f44.results.toList = [.tmp 3] := by kernel_rfl
theorem ext44 : E.ext 44 = none := by kernel_rfl
theorem res45 : Try.f45.results.toList = [.tmp 4] := by kernel_rfl
theorem ext45 : E.ext 45 = none := by kernel_rfl
theorem res46 : Try.f46.results.toList = [.tmp 4] := by kernel_rfl
theorem ext46 : E.ext 46 = none := by kernel_rfl
theorem lv46_2 : E.lv 46 2 = [⟨0, []⟩, ⟨1, []⟩, ⟨7, []⟩, ⟨8, []⟩] := by kernel_rfl
theorem res47 : Try.f47.results.toList = [.tmp 4] := by kernel_rfl
theorem ext47 : E.ext 47 = none := by kernel_rfl
theorem lv47_2 : E.lv 47 2 = [⟨0, []⟩, ⟨1, []⟩, ⟨7, []⟩, ⟨8, []⟩] := by kernel_rfl
theorem res48 : Try.f48.results.toList = [.tmp 4] := by kernel_rfl
theorem ext48 : E.ext 48 = none := by kernel_rfl
theorem lv48_2 : E.lv 48 2 = [⟨0, []⟩, ⟨1, []⟩, ⟨7, []⟩, ⟨8, []⟩] := by kernel_rfl
theorem res49 : Try.f49.results.toList = [.tmp 4, .tmp 5] := by kernel_rfl
theorem ext49 : E.ext 49 = none := by kernel_rfl
theorem lv49_5 : E.lv 49 5 = [⟨1, []⟩, ⟨2, []⟩, ⟨6, []⟩, ⟨7, []⟩, ⟨8, []⟩] := by kernel_rfl
theorem res50 : Try.f50.results.toList = [.tmp 4] := by kernel_rfl
theorem ext50 : E.ext 50 = none := by kernel_rfl
theorem lv50_16 : E.lv 50 16 = [⟨2, []⟩, ⟨3, []⟩, ⟨7, []⟩] := by kernel_rfl
theorem res51 : Try.f51.results.toList = [.tmp 4] := by kernel_rfl
theorem ext51 : E.ext 51 = none := by kernel_rfl
theorem lv51_4 : E.lv 51 4 = [⟨2, []⟩, ⟨3, []⟩, ⟨5, []⟩] := by kernel_rfl
theorem res52 : Try.f52.results.toList = [.tmp 4] := by kernel_rfl
theorem ext52 : E.ext 52 = none := by kernel_rfl
theorem res53 : Try.f53.results.toList = [.tmp 4] := by kernel_rfl
theorem ext53 : E.ext 53 = none := by kernel_rfl
theorem res54 : Try.f54.results.toList = [.tmp 2] := by kernel_rfl
theorem ext54 : E.ext 54 = none := by kernel_rfl
theorem res55 : Try.f55.results.toList = [.tmp 4] := by kernel_rfl
theorem ext55 : E.ext 55 = none := by kernel_rfl
theorem res56 : Try.f56.results.toList = [.tmp 4] := by kernel_rfl
theorem ext56 : E.ext 56 = none := by kernel_rfl
theorem lv56_2 : E.lv 56 2 = [⟨0, []⟩, ⟨1, []⟩, ⟨7, []⟩, ⟨8, []⟩] := by kernel_rfl
theorem res57 : Try.f57.results.toList = [.tmp 2] := by kernel_rfl
theorem ext57 : E.ext 57 = none := by kernel_rfl
theorem res58 : Try.f58.results.toList = [.tmp 4] := by kernel_rfl
theorem ext58 : E.ext 58 = none := by kernel_rfl
theorem res59 : Try.f59.results.toList = [.tmp 4] := by kernel_rfl
theorem ext59 : E.ext 59 = none := by kernel_rfl
theorem res60 : Try.f60.results.toList = [.tmp 6] := by kernel_rfl
theorem ext60 : E.ext 60 = none := by kernel_rfl
theorem lv60_4 : E.lv 60 4 = [⟨1, []⟩, ⟨2, []⟩, ⟨15, []⟩, ⟨16, []⟩, ⟨17, []⟩] := by kernel_rfl
theorem res61 : Try.f61.results.toList = [.tmp 2] := by kernel_rfl
theorem ext61 : E.ext 61 = none := by kernel_rfl
theorem res62 : Try.f62.results.toList = [.tmp 2] := by kernel_rfl
theorem ext62 : E.ext 62 = none := by kernel_rfl
theorem res63 : Try.f63.results.toList = [.tmp 4] := by kernel_rfl
theorem ext63 : E.ext 63 = none := by kernel_rfl
attribute [go_sem] siz1 byt1 agg1 zer1 und2 siz2 byt2 agg2 zer2 und3 siz3 byt3 agg3 zer3 und4 siz4 byt4 agg4 zer4 und5 siz5 byt5 agg5 zer5 und6 siz6 byt6 agg6 zer6 siz8 byt8 agg8 zer8 fie8_0 fie8_1 fie8_2 fie8_3 pla8 und9 siz9
attribute [go_sem] byt9 agg9 zer9 siz23 byt23 agg23 zer23 fie23_0 fie23_1 fie23_2 pla23 und24 siz24 byt24 agg24 zer24 siz26 byt26 agg26 zer26 fie26_0 pla26 und27 siz27 byt27 agg27 zer27 siz29 byt29 agg29 zer29 fie29_0 fie29_1 fie29_2 fie29_3 pla29 und30 siz30 byt30 agg30
attribute [go_sem] zer30 siz32 byt32 agg32 zer32 fie32_0 fie32_1 fie32_2 fie32_3 fie32_4 pla32 und33 siz33 byt33 agg33 zer33 und34 siz34 byt34 agg34 zer34 und35 siz35 byt35 agg35 zer35 und36 siz36 byt36 agg36 zer36 siz38 byt38 agg38 zer38 fie38_0 fie38_1 fie38_2 fie38_3 fie38_4
attribute [go_sem] fie38_5 fie38_6 pla38 siz42 byt42 agg42 zer42 fie42_0 fie42_1 pla42 siz43 byt43 agg43 zer43 fie43_0 fie43_1 pla43 siz45 byt45 agg45 zer45 fie45_0 fie45_1 fie45_2 pla45 und46 siz46 byt46 agg46 zer46 siz50 byt50 agg50 zer50 und52 siz52 byt52 agg52 zer52 und53
attribute [go_sem] siz53 byt53 agg53 zer53 siz68 byt68 agg68 zer68 siz71 byt71 agg71 zer71 und72 siz72 byt72 agg72 zer72 und81 siz81 byt81 agg81 zer81 siz83 byt83 agg83 zer83 siz90 byt90 agg90 zer90 res3 ext3 res4 ext4 lv4_5 res5 ext5 lv5_22 res6 ext6
attribute [go_sem] res7 ext7 res8 ext8 res9 ext9 res10 ext10 res11 ext11 lv11_4 res12 ext12 res13 ext13 lv13_3 res14 ext14 lv14_11 res15 ext15 lv15_3 res16 ext16 lv16_2 res17 ext17 lv17_2 lv17_8 res18 ext18 res19 ext19 lv19_4 res20 ext20 res21 ext21 lv21_2 res22
attribute [go_sem] ext22 res23 ext23 res24 ext24 res25 ext25 res26 ext26 res27 ext27 res28 ext28 res29 ext29 res30 ext30 lv30_17 res31 ext31 lv31_3 res32 ext32 res33 ext33 res34 ext34 res35 ext35 lv35_4 res36 ext36 lv36_2 lv36_8 res37 ext37 res38 ext38 lv38_2 res39
attribute [go_sem] ext39 lv39_2 res40 ext40 res41 ext41 res42 ext42 lv42_5 res43 ext43 res44 ext44 res45 ext45 res46 ext46 lv46_2 res47 ext47 lv47_2 res48 ext48 lv48_2 res49 ext49 lv49_5 res50 ext50 lv50_16 res51 ext51 lv51_4 res52 ext52 res53 ext53 res54 ext54 res55
attribute [go_sem] ext55 res56 ext56 lv56_2 res57 ext57 res58 ext58 res59 ext59 res60 ext60 lv60_4 res61 ext61 res62 ext62 res63 ext63
end Go.Proofs.Ytcblokimboajgaa.D
