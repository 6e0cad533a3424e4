/- What the evaluator asks of the seat's types and functions: rows for simp. -/
import Derived.Test.YtgnjnkmjcahkeaaDenT1
import Derived.Test.YtgnjnkmjcahkeaaDenK4
namespace Go.Proofs.Ytgnjnkmjcahkeaa.D
open Go Go.Den Go.Proofs
theorem siz1 : tSize E.P 1 = some 1 := by kernel_rfl
theorem byt1 : tBytes E.P 1 = some 8 := by kernel_rfl
theorem agg1 : tAgg E.P 1 = some false := by kernel_rfl
theorem zer1 : tZero E.P 1 = some [.nilf] := by kernel_rfl
theorem und2 : E.P.underlying 2 = some (.int .i64) := by kernel_rfl
theorem siz2 : tSize E.P 2 = some 1 := by kernel_rfl
theorem byt2 : tBytes E.P 2 = some 8 := by kernel_rfl
theorem agg2 : tAgg E.P 2 = some false := by kernel_rfl
theorem zer2 : tZero E.P 2 = some [.int .i64 (0)] := by kernel_rfl
theorem und3 : E.P.underlying 3 = some (.int .i64) := by kernel_rfl
theorem siz3 : tSize E.P 3 = some 1 := by kernel_rfl
theorem byt3 : tBytes E.P 3 = some 8 := by kernel_rfl
theorem agg3 : tAgg E.P 3 = some false := by kernel_rfl
theorem zer3 : tZero E.P 3 = some [.int .i64 (0)] := by kernel_rfl
theorem und4 : E.P.underlying 4 = some (.bool) := by kernel_rfl
theorem siz4 : tSize E.P 4 = some 1 := by kernel_rfl
theorem byt4 : tBytes E.P 4 = some 1 := by kernel_rfl
theorem agg4 : tAgg E.P 4 = some false := by kernel_rfl
theorem zer4 : tZero E.P 4 = some [.bool false] := by kernel_rfl
theorem und5 : E.P.underlying 5 = some (.int .u8) := by kernel_rfl
theorem siz5 : tSize E.P 5 = some 1 := by kernel_rfl
theorem byt5 : tBytes E.P 5 = some 1 := by kernel_rfl
theorem agg5 : tAgg E.P 5 = some false := by kernel_rfl
theorem zer5 : tZero E.P 5 = some [.int .u8 (0)] := by kernel_rfl
theorem und6 : E.P.underlying 6 = some (.int .u8) := by kernel_rfl
theorem siz6 : tSize E.P 6 = some 1 := by kernel_rfl
theorem byt6 : tBytes E.P 6 = some 1 := by kernel_rfl
theorem agg6 : tAgg E.P 6 = some false := by kernel_rfl
theorem zer6 : tZero E.P 6 = some [.int .u8 (0)] := by kernel_rfl
theorem siz8 : tSize E.P 8 = some 4 := by kernel_rfl
theorem byt8 : tBytes E.P 8 = some 24 := by kernel_rfl
theorem agg8 : tAgg E.P 8 = some true := by kernel_rfl
theorem zer8 : tZero E.P 8 = some [.int .i64 (0), .int .i64 (0), .bool false, .int .u8 (0)] := by kernel_rfl
theorem fie8_0 : tField E.P 8 0 = some (0, 2) := by kernel_rfl
theorem fie8_1 : tField E.P 8 1 = some (1, 3) := by kernel_rfl
theorem fie8_2 : tField E.P 8 2 = some (2, 4) := by kernel_rfl
theorem fie8_3 : tField E.P 8 3 = some (3, 6) := by kernel_rfl
theorem pla8 : tPlaces E.P 8 = some [(0, 1), (1, 1), (2, 1), (3, 1)] := by kernel_rfl
theorem und9 : E.P.underlying 9 = some (.string) := by kernel_rfl
theorem siz9 : tSize E.P 9 = some 1 := by kernel_rfl
theorem byt9 : tBytes E.P 9 = some 16 := by kernel_rfl
theorem agg9 : tAgg E.P 9 = some false := by kernel_rfl
theorem zer9 : tZero E.P 9 = some [.str []] := by kernel_rfl
theorem und12 : E.P.underlying 12 = some (.int .u64) := by kernel_rfl
theorem siz12 : tSize E.P 12 = some 1 := by kernel_rfl
theorem byt12 : tBytes E.P 12 = some 8 := by kernel_rfl
theorem agg12 : tAgg E.P 12 = some false := by kernel_rfl
theorem zer12 : tZero E.P 12 = some [.int .u64 (0)] := by kernel_rfl
theorem und17 : E.P.underlying 17 = some (.pointer 122) := by kernel_rfl
theorem siz17 : tSize E.P 17 = some 1 := by kernel_rfl
theorem byt17 : tBytes E.P 17 = some 8 := by kernel_rfl
theorem agg17 : tAgg E.P 17 = some false := by kernel_rfl
theorem zer17 : tZero E.P 17 = some [.nilp] := by kernel_rfl
theorem siz18 : tSize E.P 18 = some 1 := by kernel_rfl
theorem byt18 : tBytes E.P 18 = some 8 := by kernel_rfl
theorem agg18 : tAgg E.P 18 = some true := by kernel_rfl
theorem zer18 : tZero E.P 18 = some [.nilp] := by kernel_rfl
theorem fie18_0 : tField E.P 18 0 = some (0, 17) := by kernel_rfl
theorem pla18 : tPlaces E.P 18 = some [(0, 1)] := by kernel_rfl
theorem und22 : E.P.underlying 22 = some (.slice 5) := by kernel_rfl
theorem siz22 : tSize E.P 22 = some 1 := by kernel_rfl
theorem byt22 : tBytes E.P 22 = some 24 := by kernel_rfl
theorem agg22 : tAgg E.P 22 = some false := by kernel_rfl
theorem zer22 : tZero E.P 22 = some [.nils] := by kernel_rfl
theorem siz23 : tSize E.P 23 = some 4 := by kernel_rfl
theorem byt23 : tBytes E.P 23 = some 48 := by kernel_rfl
theorem agg23 : tAgg E.P 23 = some true := by kernel_rfl
theorem zer23 : tZero E.P 23 = some [.bool false, .int .i64 (0), .int .i64 (0), .nils] := by kernel_rfl
theorem fie23_0 : tField E.P 23 0 = some (0, 4) := by kernel_rfl
theorem fie23_1 : tField E.P 23 1 = some (1, 3) := by kernel_rfl
theorem fie23_2 : tField E.P 23 2 = some (2, 2) := by kernel_rfl
theorem fie23_3 : tField E.P 23 3 = some (3, 22) := by kernel_rfl
theorem pla23 : tPlaces E.P 23 = some [(0, 1), (1, 1), (2, 1), (3, 1)] := by kernel_rfl
theorem siz24 : tSize E.P 24 = some 4 := by kernel_rfl
theorem byt24 : tBytes E.P 24 = some 48 := by kernel_rfl
theorem agg24 : tAgg E.P 24 = some true := by kernel_rfl
theorem zer24 : tZero E.P 24 = some [.bool false, .int .i64 (0), .int .i64 (0), .nils] := by kernel_rfl
theorem fie24_0 : tField E.P 24 0 = some (0, 4) := by kernel_rfl
theorem fie24_1 : tField E.P 24 1 = some (1, 3) := by kernel_rfl
theorem fie24_2 : tField E.P 24 2 = some (2, 2) := by kernel_rfl
theorem fie24_3 : tField E.P 24 3 = some (3, 22) := by kernel_rfl
theorem pla24 : tPlaces E.P 24 = some [(0, 1), (1, 1), (2, 1), (3, 1)] := by kernel_rfl
theorem und25 : E.P.underlying 25 = some (.slice 24) := by kernel_rfl
theorem siz25 : tSize E.P 25 = some 1 := by kernel_rfl
theorem byt25 : tBytes E.P 25 = some 24 := by kernel_rfl
theorem agg25 : tAgg E.P 25 = some false := by kernel_rfl
theorem zer25 : tZero E.P 25 = some [.nils] := by kernel_rfl
theorem und26 : E.P.underlying 26 = some (.slice 28) := by kernel_rfl
theorem siz26 : tSize E.P 26 = some 1 := by kernel_rfl
theorem byt26 : tBytes E.P 26 = some 24 := by kernel_rfl
theorem agg26 : tAgg E.P 26 = some false := by kernel_rfl
theorem zer26 : tZero E.P 26 = some [.nils] := by kernel_rfl
theorem siz28 : tSize E.P 28 = some 8 := by kernel_rfl
theorem byt28 : tBytes E.P 28 = some 96 := by kernel_rfl
theorem agg28 : tAgg E.P 28 = some true := by kernel_rfl
theorem zer28 : tZero E.P 28 = some [.int .i64 (0), .int .i64 (0), .int .i64 (0), .bool false, .int .i64 (0), .int .i64 (0), .nils, .nils] := by kernel_rfl
theorem fie28_0 : tField E.P 28 0 = some (0, 3) := by kernel_rfl
theorem fie28_1 : tField E.P 28 1 = some (1, 3) := by kernel_rfl
theorem fie28_2 : tField E.P 28 2 = some (2, 3) := by kernel_rfl
theorem fie28_3 : tField E.P 28 3 = some (3, 24) := by kernel_rfl
theorem fie28_4 : tField E.P 28 4 = some (7, 26) := by kernel_rfl
theorem pla28 : tPlaces E.P 28 = some [(0, 1), (1, 1), (2, 1), (3, 4), (7, 1)] := by kernel_rfl
theorem siz31 : tSize E.P 31 = some 9 := by kernel_rfl
theorem byt31 : tBytes E.P 31 = some 104 := by kernel_rfl
theorem agg31 : tAgg E.P 31 = some true := by kernel_rfl
theorem zer31 : tZero E.P 31 = some [.int .i64 (0), .int .i64 (0), .int .i64 (0), .bool false, .int .i64 (0), .int .i64 (0), .nils, .nils, .int .i64 (0)] := by kernel_rfl
theorem fie31_0 : tField E.P 31 0 = some (0, 28) := by kernel_rfl
theorem fie31_1 : tField E.P 31 1 = some (8, 3) := by kernel_rfl
theorem pla31 : tPlaces E.P 31 = some [(0, 8), (8, 1)] := by kernel_rfl
theorem und34 : E.P.underlying 34 = some (.slice 31) := by kernel_rfl
theorem siz34 : tSize E.P 34 = some 1 := by kernel_rfl
theorem byt34 : tBytes E.P 34 = some 24 := by kernel_rfl
theorem agg34 : tAgg E.P 34 = some false := by kernel_rfl
theorem zer34 : tZero E.P 34 = some [.nils] := by kernel_rfl
theorem und38 : E.P.underlying 38 = some (.slice 71) := by kernel_rfl
theorem siz38 : tSize E.P 38 = some 1 := by kernel_rfl
theorem byt38 : tBytes E.P 38 = some 24 := by kernel_rfl
theorem agg38 : tAgg E.P 38 = some false := by kernel_rfl
theorem zer38 : tZero E.P 38 = some [.nils] := by kernel_rfl
theorem siz40 : tSize E.P 40 = some 1 := by kernel_rfl
theorem byt40 : tBytes E.P 40 = some 24 := by kernel_rfl
theorem agg40 : tAgg E.P 40 = some true := by kernel_rfl
theorem zer40 : tZero E.P 40 = some [.nils] := by kernel_rfl
theorem fie40_0 : tField E.P 40 0 = some (0, 38) := by kernel_rfl
theorem pla40 : tPlaces E.P 40 = some [(0, 1)] := by kernel_rfl
theorem und42 : E.P.underlying 42 = some (.int .u64) := by kernel_rfl
theorem siz42 : tSize E.P 42 = some 1 := by kernel_rfl
theorem byt42 : tBytes E.P 42 = some 8 := by kernel_rfl
theorem agg42 : tAgg E.P 42 = some false := by kernel_rfl
theorem zer42 : tZero E.P 42 = some [.int .u64 (0)] := by kernel_rfl
theorem und46 : E.P.underlying 46 = some (.slice 3) := by kernel_rfl
theorem siz46 : tSize E.P 46 = some 1 := by kernel_rfl
theorem byt46 : tBytes E.P 46 = some 24 := by kernel_rfl
theorem agg46 : tAgg E.P 46 = some false := by kernel_rfl
theorem zer46 : tZero E.P 46 = some [.nils] := by kernel_rfl
theorem siz48 : tSize E.P 48 = some 1 := by kernel_rfl
theorem byt48 : tBytes E.P 48 = some 8 := by kernel_rfl
theorem agg48 : tAgg E.P 48 = some false := by kernel_rfl
theorem zer48 : tZero E.P 48 = some [.nilf] := by kernel_rfl
theorem siz55 : tSize E.P 55 = some 11 := by kernel_rfl
theorem byt55 : tBytes E.P 55 = some 120 := by kernel_rfl
theorem agg55 : tAgg E.P 55 = some true := by kernel_rfl
theorem zer55 : tZero E.P 55 = some [.int .i64 (0), .int .i64 (0), .int .i64 (0), .bool false, .int .i64 (0), .int .i64 (0), .nils, .nils, .int .i64 (0), .int .i64 (0), .bool false] := by kernel_rfl
theorem fie55_0 : tField E.P 55 0 = some (0, 28) := by kernel_rfl
theorem fie55_1 : tField E.P 55 1 = some (8, 3) := by kernel_rfl
theorem fie55_2 : tField E.P 55 2 = some (9, 3) := by kernel_rfl
theorem fie55_3 : tField E.P 55 3 = some (10, 4) := by kernel_rfl
theorem pla55 : tPlaces E.P 55 = some [(0, 8), (8, 1), (9, 1), (10, 1)] := by kernel_rfl
theorem und56 : E.P.underlying 56 = some (.slice 55) := by kernel_rfl
theorem siz56 : tSize E.P 56 = some 1 := by kernel_rfl
theorem byt56 : tBytes E.P 56 = some 24 := by kernel_rfl
theorem agg56 : tAgg E.P 56 = some false := by kernel_rfl
theorem zer56 : tZero E.P 56 = some [.nils] := by kernel_rfl
theorem siz71 : tSize E.P 71 = some 3 := by kernel_rfl
theorem byt71 : tBytes E.P 71 = some 32 := by kernel_rfl
theorem agg71 : tAgg E.P 71 = some true := by kernel_rfl
theorem zer71 : tZero E.P 71 = some [.str [], .int .i64 (0), .bool false] := by kernel_rfl
theorem fie71_0 : tField E.P 71 0 = some (0, 9) := by kernel_rfl
theorem fie71_1 : tField E.P 71 1 = some (1, 3) := by kernel_rfl
theorem fie71_2 : tField E.P 71 2 = some (2, 4) := by kernel_rfl
theorem pla71 : tPlaces E.P 71 = some [(0, 1), (1, 1), (2, 1)] := by kernel_rfl
theorem und72 : E.P.underlying 72 = some (.slice 9) := by kernel_rfl
theorem siz72 : tSize E.P 72 = some 1 := by kernel_rfl
theorem byt72 : tBytes E.P 72 = some 24 := by kernel_rfl
theorem agg72 : tAgg E.P 72 = some false := by kernel_rfl
theorem zer72 : tZero E.P 72 = some [.nils] := by kernel_rfl
theorem und74 : E.P.underlying 74 = some (.pointer 3) := by kernel_rfl
theorem siz74 : tSize E.P 74 = some 1 := by kernel_rfl
theorem byt74 : tBytes E.P 74 = some 8 := by kernel_rfl
theorem agg74 : tAgg E.P 74 = some false := by kernel_rfl
theorem zer74 : tZero E.P 74 = some [.nilp] := by kernel_rfl
theorem und77 : E.P.underlying 77 = some (.slice 26) := by kernel_rfl
theorem siz77 : tSize E.P 77 = some 1 := by kernel_rfl
theorem byt77 : tBytes E.P 77 = some 24 := by kernel_rfl
theorem agg77 : tAgg E.P 77 = some false := by kernel_rfl
theorem zer77 : tZero E.P 77 = some [.nils] := by kernel_rfl
theorem siz79 : tSize E.P 79 = some 2 := by kernel_rfl
theorem byt79 : tBytes E.P 79 = some 32 := by kernel_rfl
theorem agg79 : tAgg E.P 79 = some true := by kernel_rfl
theorem zer79 : tZero E.P 79 = some [.nils, .bool false] := by kernel_rfl
theorem fie79_0 : tField E.P 79 0 = some (0, 77) := by kernel_rfl
theorem fie79_1 : tField E.P 79 1 = some (1, 4) := by kernel_rfl
theorem pla79 : tPlaces E.P 79 = some [(0, 1), (1, 1)] := by kernel_rfl
theorem und105 : E.P.underlying 105 = some (.slice 77) := by kernel_rfl
theorem siz105 : tSize E.P 105 = some 1 := by kernel_rfl
theorem byt105 : tBytes E.P 105 = some 24 := by kernel_rfl
theorem agg105 : tAgg E.P 105 = some false := by kernel_rfl
theorem zer105 : tZero E.P 105 = some [.nils] := by kernel_rfl
theorem und114 : E.P.underlying 114 = some (.int .u32) := by kernel_rfl
theorem siz114 : tSize E.P 114 = some 1 := by kernel_rfl
theorem byt114 : tBytes E.P 114 = some 4 := by kernel_rfl
theorem agg114 : tAgg E.P 114 = some false := by kernel_rfl
theorem zer114 : tZero E.P 114 = some [.int .u32 (0)] := by kernel_rfl
theorem und115 : E.P.underlying 115 = some (.int .u8) := by kernel_rfl
theorem siz115 : tSize E.P 115 = some 1 := by kernel_rfl
theorem byt115 : tBytes E.P 115 = some 1 := by kernel_rfl
theorem agg115 : tAgg E.P 115 = some false := by kernel_rfl
theorem zer115 : tZero E.P 115 = some [.int .u8 (0)] := by kernel_rfl
theorem und116 : E.P.underlying 116 = some (.int .u8) := by kernel_rfl
theorem siz116 : tSize E.P 116 = some 1 := by kernel_rfl
theorem byt116 : tBytes E.P 116 = some 1 := by kernel_rfl
theorem agg116 : tAgg E.P 116 = some false := by kernel_rfl
theorem zer116 : tZero E.P 116 = some [.int .u8 (0)] := by kernel_rfl
theorem siz117 : tSize E.P 117 = some 1 := by kernel_rfl
theorem byt117 : tBytes E.P 117 = some 8 := by kernel_rfl
theorem agg117 : tAgg E.P 117 = some false := by kernel_rfl
theorem zer117 : tZero E.P 117 = some [.nilf] := by kernel_rfl
theorem und118 : E.P.underlying 118 = some (.pointer 5) := by kernel_rfl
theorem siz118 : tSize E.P 118 = some 1 := by kernel_rfl
theorem byt118 : tBytes E.P 118 = some 8 := by kernel_rfl
theorem agg118 : tAgg E.P 118 = some false := by kernel_rfl
theorem zer118 : tZero E.P 118 = some [.nilp] := by kernel_rfl
theorem und119 : E.P.underlying 119 = some (.int .i32) := by kernel_rfl
theorem siz119 : tSize E.P 119 = some 1 := by kernel_rfl
theorem byt119 : tBytes E.P 119 = some 4 := by kernel_rfl
theorem agg119 : tAgg E.P 119 = some false := by kernel_rfl
theorem zer119 : tZero E.P 119 = some [.int .i32 (0)] := by kernel_rfl
theorem und120 : E.P.underlying 120 = some (.int .i32) := by kernel_rfl
theorem siz120 : tSize E.P 120 = some 1 := by kernel_rfl
theorem byt120 : tBytes E.P 120 = some 4 := by kernel_rfl
theorem agg120 : tAgg E.P 120 = some false := by kernel_rfl
theorem zer120 : tZero E.P 120 = some [.int .i32 (0)] := by kernel_rfl
theorem siz122 : tSize E.P 122 = some 11 := by kernel_rfl
theorem byt122 : tBytes E.P 122 = some 48 := by kernel_rfl
theorem agg122 : tAgg E.P 122 = some true := by kernel_rfl
theorem zer122 : tZero E.P 122 = some [.int .u64 (0), .int .u64 (0), .int .u32 (0), .int .u8 (0), .int .u8 (0), .int .u8 (0), .int .u8 (0), .nilf, .nilp, .int .i32 (0), .int .i32 (0)] := by kernel_rfl
theorem fie122_0 : tField E.P 122 0 = some (0, 12) := by kernel_rfl
theorem fie122_1 : tField E.P 122 1 = some (1, 12) := by kernel_rfl
theorem fie122_2 : tField E.P 122 2 = some (2, 114) := by kernel_rfl
theorem fie122_3 : tField E.P 122 3 = some (3, 115) := by kernel_rfl
theorem fie122_4 : tField E.P 122 4 = some (4, 5) := by kernel_rfl
theorem fie122_5 : tField E.P 122 5 = some (5, 5) := by kernel_rfl
theorem fie122_6 : tField E.P 122 6 = some (6, 116) := by kernel_rfl
theorem fie122_7 : tField E.P 122 7 = some (7, 117) := by kernel_rfl
theorem fie122_8 : tField E.P 122 8 = some (8, 118) := by kernel_rfl
theorem fie122_9 : tField E.P 122 9 = some (9, 119) := by kernel_rfl
theorem fie122_10 : tField E.P 122 10 = some (10, 120) := by kernel_rfl
theorem pla122 : tPlaces E.P 122 = some [(0, 1), (1, 1), (2, 1), (3, 1), (4, 1), (5, 1), (6, 1), (7, 1), (8, 1), (9, 1), (10, 1)] := by kernel_rfl
theorem res3 : Try.f3.results.toList = [.tmp 2] := by kernel_rfl
theorem ext3 : E.ext 3 = none := by kernel_rfl
theorem res4 : Try.f4.results.toList = [.tmp 6] := by kernel_rfl
theorem ext4 : E.ext 4 = none := by kernel_rfl
theorem lv4_5 : E.lv 4 5 = [⟨0, []⟩, ⟨1, []⟩, ⟨2, []⟩, ⟨7, []⟩, ⟨8, []⟩, ⟨9, []⟩] := by kernel_rfl
theorem lv4_17 : E.lv 4 17 = [⟨1, []⟩, ⟨7, []⟩, ⟨10, [(0, 28, 8)]⟩, ⟨11, []⟩] := by kernel_rfl
theorem lv4_22 : E.lv 4 22 = [⟨1, []⟩, ⟨7, []⟩, ⟨10, []⟩, ⟨12, []⟩, ⟨63, []⟩, ⟨64, []⟩] := by kernel_rfl
theorem res5 : Try.f5.results.toList = [.tmp 6] := by kernel_rfl
theorem ext5 : E.ext 5 = none := by kernel_rfl
theorem res6 : Try.f6.results.toList = [.tmp 8] := by kernel_rfl
theorem ext6 : E.ext 6 = none := by kernel_rfl
theorem res7 : Try.f7.results.toList = [.tmp 8] := by kernel_rfl
theorem ext7 : E.ext 7 = none := by kernel_rfl
theorem res8 : Try.f8.results.toList = [.tmp 2] := by kernel_rfl
theorem ext8 : E.ext 8 = none := by kernel_rfl
theorem lv8_12 : E.lv 8 12 = [⟨12, []⟩, ⟨13, []⟩, ⟨14, []⟩, ⟨15, []⟩, ⟨171, []⟩, ⟨172, []⟩, ⟨173, []⟩] := by kernel_rfl
theorem res9 : Try.f9.results.toList = [.tmp 4] := by kernel_rfl
theorem ext9 : E.ext 9 = none := by kernel_rfl
theorem res10 : Try.f10.results.toList = [.tmp 8] := by kernel_rfl
theorem ext10 : E.ext 10 = none := by kernel_rfl
theorem res11 : Try.f11.results.toList = [.tmp 6] := by kernel_rfl
theorem ext11 : E.ext 11 = none := by kernel_rfl
theorem lv11_4 : E.lv 11 4 = [⟨7, []⟩, ⟨38, []⟩, ⟨39, []⟩, ⟨40, []⟩] := by kernel_rfl
theorem res12 : Try.f12.results.toList = [.tmp 6] := by kernel_rfl
theorem ext12 : E.ext 12 = none := by kernel_rfl
theorem lv12_6 : E.lv 12 6 = [⟨2, []⟩, ⟨7, []⟩, ⟨8, []⟩, ⟨9, []⟩, ⟨10, []⟩, ⟨11, []⟩, ⟨12, []⟩, ⟨13, []⟩] := by kernel_rfl
theorem res13 : Try.f13.results.toList = [.cell 6 28] := by kernel_rfl
theorem ext13 : E.ext 13 = none := by kernel_rfl
theorem res14 : Try.f14.results.toList = [.cell 4 28] := by kernel_rfl
theorem ext14 : E.ext 14 = none := by kernel_rfl
theorem res15 : Try.f15.results.toList = [.cell 2 28] := by kernel_rfl
theorem ext15 : E.ext 15 = none := by kernel_rfl
theorem res16 : Try.f16.results.toList = [.cell 2 28] := by kernel_rfl
theorem ext16 : E.ext 16 = none := by kernel_rfl
theorem res17 : Try.f17.results.toList = [.cell 2 28] := by kernel_rfl
theorem ext17 : E.ext 17 = none := by kernel_rfl
theorem res18 : Try.f18.results.toList = [.tmp 4] := by kernel_rfl
theorem ext18 : E.ext 18 = none := by kernel_rfl
theorem res19 : Try.f19.results.toList = [.tmp 0] := by kernel_rfl
theorem ext19 : E.ext 19 = none := by kernel_rfl
theorem res20 : Try.f20.results.toList = [.cell 2 40] := by kernel_rfl
theorem ext20 : E.ext 20 = none := by kernel_rfl
theorem lv20_4 : E.lv 20 4 = [⟨0, []⟩, ⟨2, []⟩, ⟨3, []⟩, ⟨4, []⟩, ⟨5, []⟩] := by kernel_rfl
theorem res21 : Try.f21.results.toList = [.tmp 4] := by kernel_rfl
theorem ext21 : E.ext 21 = none := by kernel_rfl
theorem res22 : Try.f22.results.toList = [.tmp 2] := by kernel_rfl
theorem ext22 : E.ext 22 = none := by kernel_rfl
theorem lv22_3 : E.lv 22 3 = [⟨3, []⟩, ⟨8, []⟩, ⟨9, []⟩] := by kernel_rfl
theorem res23 : Try.f23.results.toList = [.cell 8 28] := by kernel_rfl
theorem ext23 : E.ext 23 = none := by kernel_rfl
theorem lv23_17 : E.lv 23 17 = [⟨1, []⟩, ⟨2, []⟩, ⟨3, []⟩, ⟨4, []⟩, ⟨8, []⟩, ⟨9, []⟩, ⟨12, []⟩, ⟨13, []⟩] := by kernel_rfl
theorem res24 : Try.f24.results.toList = [.tmp 4] := by kernel_rfl
theorem ext24 : E.ext 24 = none := by kernel_rfl
theorem lv24_4 : E.lv 24 4 = [⟨2, []⟩, ⟨3, []⟩, ⟨5, []⟩] := by kernel_rfl
theorem res25 : Try.f25.results.toList = [.tmp 4] := by kernel_rfl
theorem ext25 : E.ext 25 = none := by kernel_rfl
theorem lv25_3 : E.lv 25 3 = [⟨1, []⟩, ⟨5, [(0, 24, 4)]⟩, ⟨9, []⟩, ⟨10, []⟩, ⟨11, []⟩] := by kernel_rfl
theorem res26 : Try.f26.results.toList = [.tmp 3] := by kernel_rfl
theorem ext26 : E.ext 26 = none := by kernel_rfl
theorem res27 : Try.f27.results.toList = [.tmp 3] := by kernel_rfl
theorem ext27 : E.ext 27 = none := by kernel_rfl
theorem res28 : Try.f28.results.toList = [.cell 2 28] := by kernel_rfl
theorem ext28 : E.ext 28 = none := by kernel_rfl
theorem res29 : Try.f29.results.toList = [.cell 2 28] := by kernel_rfl
theorem ext29 : E.ext 29 = none := by kernel_rfl
theorem res30 : Try.f30.results.toList = [.cell 2 28] := by kernel_rfl
theorem ext30 : E.ext 30 = none := by kernel_rfl
theorem res31 : Try.f31.results.toList = [.cell 2 28] := by kernel_rfl
theorem ext31 : E.ext 31 = none := by kernel_rfl
theorem res32 : Try.f32.results.toList = [.cell 2 28, .tmp 3] := by kernel_rfl
theorem ext32 : E.ext 32 = none := by kernel_rfl
theorem lv32_6 : E.lv 32 6 = [⟨2, []⟩, ⟨5, [(0, 28, 8)]⟩, ⟨15, []⟩, ⟨16, []⟩, ⟨17, []⟩] := by kernel_rfl
theorem res33 : Try.f33.results.toList = [.tmp 0] := by kernel_rfl
theorem ext33 : E.ext 33 = none := by kernel_rfl
theorem res34 : Try.f34.results.toList = [.tmp 4] := by kernel_rfl
theorem ext34 : E.ext 34 = none := by kernel_rfl
theorem res35 : Try.f35.results.toList = [.tmp 2, .tmp 3] := by kernel_rfl
theorem ext35 : E.ext 35 = none := by kernel_rfl
theorem lv35_5 : E.lv 35 5 = [⟨25, []⟩, ⟨26, []⟩, ⟨27, []⟩] := by kernel_rfl
theorem res36 : Try.f36.results.toList = [.cell 2 28, .tmp 3] := by kernel_rfl
theorem ext36 : E.ext 36 = none := by kernel_rfl
theorem lv36_6 : E.lv 36 6 = [⟨2, []⟩, ⟨4, []⟩, ⟨6, []⟩, ⟨7, []⟩] := by kernel_rfl
theorem res37 : Try.f37.results.toList = [.tmp 2, .tmp 3] := by kernel_rfl
theorem ext37 : E.ext 37 = none := by kernel_rfl
theorem lv37_6 : E.lv 37 6 = [⟨6, []⟩, ⟨7, []⟩] := by kernel_rfl
theorem res38 : Try.f38.results.toList = [.tmp 4] := by kernel_rfl
theorem ext38 : E.ext 38 = none := by kernel_rfl
theorem lv38_21 : E.lv 38 21 = [⟨1, []⟩, ⟨2, []⟩, ⟨5, []⟩, ⟨6, []⟩, ⟨7, []⟩] := by kernel_rfl
theorem res39 : Try.f39.results.toList = [.tmp 2] := by kernel_rfl
theorem ext39 : E.ext 39 = none := by kernel_rfl
theorem res40 : Try.f40.results.toList = [.cell 4 24] := by kernel_rfl
theorem ext40 : E.ext 40 = none := by kernel_rfl
theorem res41 : Try.f41.results.toList = [.tmp 2] := by kernel_rfl
theorem ext41 : E.ext 41 = none := by kernel_rfl
theorem res42 : Try.f42.results.toList = [.tmp 4] := by kernel_rfl
theorem ext42 : E.ext 42 = none := by kernel_rfl
theorem res43 : Try.f43.results.toList = [.tmp 4] := by kernel_rfl
theorem ext43 : E.ext 43 = none := by kernel_rfl
theorem res44 : Try.f44.results.toList = [.tmp 8] := by kernel_rfl
theorem ext44 : E.ext 44 = none := by kernel_rfl
theorem lv44_3 : E.lv 44 3 = [⟨1, []⟩, ⟨2, []⟩, ⟨9, []⟩, ⟨15, []⟩, ⟨16, []⟩, ⟨17, []⟩] := by kernel_rfl
theorem res45 : Try.f45.results.toList = [.tmp 2] := by kernel_rfl
theorem ext45 : E.ext 45 = none := by kernel_rfl
theorem res46 : Try.f46.results.toList = [.tmp 4] := by kernel_rfl
theorem ext46 : E.ext 46 = none := by kernel_rfl
theorem res47 : Try.f47.results.toList = [.tmp 8] := by kernel_rfl
theorem ext47 : E.ext 47 = none := by kernel_rfl
theorem lv47_5 : E.lv 47 5 = [⟨2, []⟩, ⟨3, []⟩, ⟨4, []⟩, ⟨31, []⟩, ⟨32, []⟩, ⟨33, []⟩] := by kernel_rfl
theorem res48 : Try.f48.results.toList = [.cell 4 24] := by kernel_rfl
theorem ext48 : E.ext 48 = none := by kernel_rfl
theorem res49 : Try.f49.results.toList = [.tmp 4] := by kernel_rfl
theorem ext49 : E.ext 49 = none := by kernel_rfl
theorem res50 : Try.f50.results.toList = [.cell 4 79] := by kernel_rfl
theorem ext50 : E.ext 50 = none := by kernel_rfl
theorem res51 : Try.f51.results.toList = [.tmp 4, .tmp 5] := by kernel_rfl
theorem ext51 : E.ext 51 = none := by kernel_rfl
theorem lv51_5 : E.lv 51 5 = [⟨1, []⟩, ⟨2, []⟩, ⟨6, []⟩, ⟨7, []⟩, ⟨8, []⟩] := by kernel_rfl
theorem res52 : Try.f52.results.toList = [.tmp 4] := by kernel_rfl
theorem ext52 : E.ext 52 = none := by kernel_rfl
theorem lv52_16 : E.lv 52 16 = [⟨2, []⟩, ⟨3, []⟩, ⟨7, []⟩] := by kernel_rfl
theorem res53 : Try.f53.results.toList = [.tmp 2, .tmp 3] := by kernel_rfl
theorem ext53 : E.ext 53 = none := by kernel_rfl
theorem lv53_5 : E.lv 53 5 = [⟨1, []⟩, ⟨4, [(0, 26, 1)]⟩, ⟨5, []⟩] := by kernel_rfl
theorem lv53_15 : E.lv 53 15 = [⟨1, []⟩, ⟨8, [(0, 26, 1)]⟩, ⟨9, []⟩] := by kernel_rfl
theorem lv53_22 : E.lv 53 22 = [⟨1, []⟩, ⟨8, []⟩, ⟨9, []⟩, ⟨10, []⟩, ⟨12, [(0, 26, 1)]⟩, ⟨13, []⟩] := by kernel_rfl
theorem lv53_25 : E.lv 53 25 = [⟨1, []⟩, ⟨8, []⟩, ⟨9, []⟩, ⟨10, []⟩, ⟨12, [(0, 26, 1)]⟩, ⟨13, []⟩, ⟨14, []⟩] := by kernel_rfl
theorem res54 : Try.f54.results.toList = [.cell 4 28] := by kernel_rfl
theorem ext54 : E.ext 54 = none := by kernel_rfl
theorem lv54_20 : E.lv 54 20 = [⟨1, []⟩, ⟨2, []⟩, ⟨4, []⟩, ⟨5, []⟩, ⟨6, []⟩] := by kernel_rfl
theorem res55 : Try.f55.results.toList = [.tmp 2] := by kernel_rfl
theorem ext55 : E.ext 55 = none := by kernel_rfl
theorem res56 : Try.f56.results.toList = [.tmp 4] := by kernel_rfl
theorem ext56 : E.ext 56 = none := by kernel_rfl
theorem res57 : Try.f57.results.toList = [.tmp 4] := by kernel_rfl
theorem ext57 : E.ext 57 = none := by kernel_rfl
theorem res58 : Try.f58.results.toList = [.cell 2 28] := by kernel_rfl
theorem ext58 : E.ext 58 = none := by kernel_rfl
theorem lv58_4 : E.lv 58 4 = [⟨1, []⟩, ⟨2, []⟩, ⟨3, [(0, 28, 8)]⟩, ⟨11, []⟩, ⟨12, []⟩, ⟨13, []⟩] := by kernel_rfl
theorem res59 : Try.f59.results.toList = [.cell 2 24] := by kernel_rfl
theorem ext59 : E.ext 59 = none := by kernel_rfl
theorem res60 : Try.f60.results.toList = [.tmp 4] := by kernel_rfl
theorem ext60 : E.ext 60 = none := by kernel_rfl
theorem res61 : Try.f61.results.toList = [.tmp 2] := by kernel_rfl
theorem ext61 : E.ext 61 = none := by kernel_rfl
theorem res62 : Try.f62.results.toList = [.tmp 4] := by kernel_rfl
theorem ext62 : E.ext 62 = none := by kernel_rfl
theorem res63 : Try.f63.results.toList = [.tmp 4] := by kernel_rfl
theorem ext63 : E.ext 63 = some (.fn compareF) := by kernel_rfl
theorem res64 : Try.f64.results.toList = [.tmp 4] := by kernel_rfl
theorem ext64 : E.ext 64 = none := by kernel_rfl
theorem res65 : Try.f65.results.toList = [.tmp 6] := by kernel_rfl
theorem ext65 : E.ext 65 = none := by kernel_rfl
theorem lv65_4 : E.lv 65 4 = [⟨1, []⟩, ⟨2, []⟩, ⟨15, []⟩, ⟨16, []⟩, ⟨17, []⟩] := by kernel_rfl
theorem res66 : Try.f66.results.toList = [.tmp 4] := by kernel_rfl
theorem ext66 : E.ext 66 = none := by kernel_rfl
theorem res67 : Try.f67.results.toList = [.cell 0 79] := by kernel_rfl
theorem ext67 : E.ext 67 = none := by kernel_rfl
theorem res68 : Try.f68.results.toList = [.cell 0 79] := by kernel_rfl
theorem ext68 : E.ext 68 = none := by kernel_rfl
theorem res69 : Try.f69.results.toList = [.tmp 2] := by kernel_rfl
theorem ext69 : E.ext 69 = none := by kernel_rfl
theorem res70 : Try.f70.results.toList = [.cell 2 79] := by kernel_rfl
theorem ext70 : E.ext 70 = none := by kernel_rfl
theorem res71 : Try.f71.results.toList = [.cell 6 79] := by kernel_rfl
theorem ext71 : E.ext 71 = none := by kernel_rfl
theorem lv71_5 : E.lv 71 5 = [⟨1, []⟩, ⟨2, []⟩, ⟨6, []⟩, ⟨7, [(0, 26, 1)]⟩, ⟨14, []⟩, ⟨15, []⟩, ⟨16, []⟩] := by kernel_rfl
theorem res72 : Try.f72.results.toList = [.tmp 2] := by kernel_rfl
theorem ext72 : E.ext 72 = none := by kernel_rfl
theorem res73 : Try.f73.results.toList = [.tmp 4] := by kernel_rfl
theorem ext73 : E.ext 73 = none := by kernel_rfl
theorem res74 : Try.f74.results.toList = [.tmp 2] := by kernel_rfl
theorem ext74 : E.ext 74 = none := by kernel_rfl
theorem res75 : Try.f75.results.toList = [.tmp 2] := by kernel_rfl
theorem ext75 : E.ext 75 = some .clip := by kernel_rfl
theorem res76 : Try.f76.results.toList = [.tmp 2] := by kernel_rfl
theorem ext76 : E.ext 76 = some (.fn (cloneF 5 1 1)) := by kernel_rfl
theorem res77 : Try.f77.results.toList = [.tmp 2] := by kernel_rfl
theorem ext77 : E.ext 77 = none := by kernel_rfl
theorem res78 : Try.f78.results.toList = [.tmp 2] := by kernel_rfl
theorem ext78 : E.ext 78 = none := by kernel_rfl
theorem res80 : Try.f80.results.toList = [.tmp 4] := by kernel_rfl
theorem ext80 : E.ext 80 = none := by kernel_rfl
theorem res81 : Try.f81.results.toList = [.tmp 2] := by kernel_rfl
theorem ext81 : E.ext 81 = none := by kernel_rfl
theorem res82 : Try.f82.results.toList = [.tmp 2] := by kernel_rfl
theorem ext82 : E.ext 82 = none := by kernel_rfl
theorem res83 : Try.f83.results.toList = [.tmp 2] := by kernel_rfl
theorem ext83 : E.ext 83 = none := by kernel_rfl
theorem res84 : Try.f84.results.toList = [.cell 4 79] := by kernel_rfl
theorem ext84 : E.ext 84 = none := by kernel_rfl
theorem lv84_5 : E.lv 84 5 = [⟨3, []⟩, ⟨4, []⟩, ⟨5, [(0, 26, 1)]⟩, ⟨33, []⟩, ⟨34, []⟩, ⟨35, []⟩] := by kernel_rfl
theorem lv84_8 : E.lv 84 8 = [⟨3, []⟩, ⟨4, []⟩, ⟨5, [(0, 26, 1)]⟩, ⟨7, []⟩, ⟨33, []⟩, ⟨34, []⟩, ⟨35, []⟩, ⟨40, []⟩, ⟨41, []⟩, ⟨42, []⟩] := by kernel_rfl
theorem res85 : Try.f85.results.toList = [.cell 4 79] := by kernel_rfl
theorem ext85 : E.ext 85 = none := by kernel_rfl
theorem res86 : Try.f86.results.toList = [.tmp 2] := by kernel_rfl
theorem ext86 : E.ext 86 = none := by kernel_rfl
theorem lv86_3 : E.lv 86 3 = [⟨0, []⟩, ⟨3, []⟩, ⟨9, []⟩, ⟨10, []⟩, ⟨11, []⟩] := by kernel_rfl
theorem lv86_11 : E.lv 86 11 = [⟨6, [(0, 28, 8)]⟩, ⟨25, []⟩, ⟨26, []⟩, ⟨27, []⟩] := by kernel_rfl
theorem res87 : Try.f87.results.toList = [.tmp 2] := by kernel_rfl
theorem ext87 : E.ext 87 = none := by kernel_rfl
theorem lv87_3 : E.lv 87 3 = [⟨0, []⟩, ⟨3, []⟩, ⟨9, []⟩, ⟨10, []⟩, ⟨11, []⟩] := by kernel_rfl
theorem lv87_11 : E.lv 87 11 = [⟨6, [(0, 26, 1)]⟩, ⟨25, []⟩, ⟨26, []⟩, ⟨27, []⟩] := by kernel_rfl
theorem res88 : Try.f88.results.toList = [.tmp 4] := by kernel_rfl
theorem ext88 : E.ext 88 = some (.fn (growF 28 8 96)) := by kernel_rfl
theorem res89 : Try.f89.results.toList = [.tmp 4] := by kernel_rfl
theorem ext89 : E.ext 89 = some (.fn (growF 26 1 24)) := by kernel_rfl
attribute [go_sem] siz1 byt1 agg1 zer1 und2 siz2 byt2 agg2 zer2 und3 siz3 byt3 agg3 zer3 und4 siz4 byt4 agg4 zer4 und5 siz5 byt5 agg5 zer5 und6 siz6 byt6 agg6 zer6 siz8 byt8 agg8 zer8 fie8_0 fie8_1 fie8_2 fie8_3 pla8 und9 siz9
attribute [go_sem] byt9 agg9 zer9 und12 siz12 byt12 agg12 zer12 und17 siz17 byt17 agg17 zer17 siz18 byt18 agg18 zer18 fie18_0 pla18 und22 siz22 byt22 agg22 zer22 siz23 byt23 agg23 zer23 fie23_0 fie23_1 fie23_2 fie23_3 pla23 siz24 byt24 agg24 zer24 fie24_0 fie24_1 fie24_2
attribute [go_sem] fie24_3 pla24 und25 siz25 byt25 agg25 zer25 und26 siz26 byt26 agg26 zer26 siz28 byt28 agg28 zer28 fie28_0 fie28_1 fie28_2 fie28_3 fie28_4 pla28 siz31 byt31 agg31 zer31 fie31_0 fie31_1 pla31 und34 siz34 byt34 agg34 zer34 und38 siz38 byt38 agg38 zer38 siz40
attribute [go_sem] byt40 agg40 zer40 fie40_0 pla40 und42 siz42 byt42 agg42 zer42 und46 siz46 byt46 agg46 zer46 siz48 byt48 agg48 zer48 siz55 byt55 agg55 zer55 fie55_0 fie55_1 fie55_2 fie55_3 pla55 und56 siz56 byt56 agg56 zer56 siz71 byt71 agg71 zer71 fie71_0 fie71_1 fie71_2
attribute [go_sem] pla71 und72 siz72 byt72 agg72 zer72 und74 siz74 byt74 agg74 zer74 und77 siz77 byt77 agg77 zer77 siz79 byt79 agg79 zer79 fie79_0 fie79_1 pla79 und105 siz105 byt105 agg105 zer105 und114 siz114 byt114 agg114 zer114 und115 siz115 byt115 agg115 zer115 und116 siz116
attribute [go_sem] byt116 agg116 zer116 siz117 byt117 agg117 zer117 und118 siz118 byt118 agg118 zer118 und119 siz119 byt119 agg119 zer119 und120 siz120 byt120 agg120 zer120 siz122 byt122 agg122 zer122 fie122_0 fie122_1 fie122_2 fie122_3 fie122_4 fie122_5 fie122_6 fie122_7 fie122_8 fie122_9 fie122_10 pla122 res3 ext3
attribute [go_sem] res4 ext4 lv4_5 lv4_17 lv4_22 res5 ext5 res6 ext6 res7 ext7 res8 ext8 lv8_12 res9 ext9 res10 ext10 res11 ext11 lv11_4 res12 ext12 lv12_6 res13 ext13 res14 ext14 res15 ext15 res16 ext16 res17 ext17 res18 ext18 res19 ext19 res20 ext20
attribute [go_sem] lv20_4 res21 ext21 res22 ext22 lv22_3 res23 ext23 lv23_17 res24 ext24 lv24_4 res25 ext25 lv25_3 res26 ext26 res27 ext27 res28 ext28 res29 ext29 res30 ext30 res31 ext31 res32 ext32 lv32_6 res33 ext33 res34 ext34 res35 ext35 lv35_5 res36 ext36 lv36_6
attribute [go_sem] res37 ext37 lv37_6 res38 ext38 lv38_21 res39 ext39 res40 ext40 res41 ext41 res42 ext42 res43 ext43 res44 ext44 lv44_3 res45 ext45 res46 ext46 res47 ext47 lv47_5 res48 ext48 res49 ext49 res50 ext50 res51 ext51 lv51_5 res52 ext52 lv52_16 res53 ext53
attribute [go_sem] lv53_5 lv53_15 lv53_22 lv53_25 res54 ext54 lv54_20 res55 ext55 res56 ext56 res57 ext57 res58 ext58 lv58_4 res59 ext59 res60 ext60 res61 ext61 res62 ext62 res63 ext63 res64 ext64 res65 ext65 lv65_4 res66 ext66 res67 ext67 res68 ext68 res69 ext69 res70
attribute [go_sem] ext70 res71 ext71 lv71_5 res72 ext72 res73 ext73 res74 ext74 res75 ext75 res76 ext76 res77 ext77 res78 ext78 res80 ext80 res81 ext81 res82 ext82 res83 ext83 res84 ext84 lv84_5 lv84_8 res85 ext85 res86 ext86 lv86_3 lv86_11 res87 ext87 lv87_3 lv87_11
attribute [go_sem] res88 ext88 res89 ext89
end Go.Proofs.Ytgnjnkmjcahkeaa.D
