/- What the evaluator asks of the seat's types and functions: rows for simp. -/
import Derived.Test.YtgocfiehbgoacaaDenT1
import Derived.Test.YtgocfiehbgoacaaDenK4
namespace Go.Proofs.Ytgocfiehbgoacaa.D
open Go Go.Den Go.Proofs
theorem siz1 : tSize E.P 1 = some 1 := by kernel_rfl
theorem byt1 : tBytes E.P 1 = some 8 := by kernel_rfl
theorem agg1 : tAgg E.P 1 = some false := by kernel_rfl
theorem zer1 : tZero E.P 1 = some [.nilf] := by kernel_rfl
theorem und2 : E.P.underlying 2 = some (.int .i64) := by kernel_rfl
theorem siz2 : tSize E.P 2 = some 1 := by kernel_rfl
theorem byt2 : tBytes E.P 2 = some 8 := by kernel_rfl
theorem agg2 : tAgg E.P 2 = some false := by kernel_rfl
theorem zer2 : tZero E.P 2 = some [.int .i64 (0)] := by kernel_rfl
theorem und3 : E.P.underlying 3 = some (.int .i64) := by kernel_rfl
theorem siz3 : tSize E.P 3 = some 1 := by kernel_rfl
theorem byt3 : tBytes E.P 3 = some 8 := by kernel_rfl
theorem agg3 : tAgg E.P 3 = some false := by kernel_rfl
theorem zer3 : tZero E.P 3 = some [.int .i64 (0)] := by kernel_rfl
theorem und4 : E.P.underlying 4 = some (.bool) := by kernel_rfl
theorem siz4 : tSize E.P 4 = some 1 := by kernel_rfl
theorem byt4 : tBytes E.P 4 = some 1 := by kernel_rfl
theorem agg4 : tAgg E.P 4 = some false := by kernel_rfl
theorem zer4 : tZero E.P 4 = some [.bool false] := by kernel_rfl
theorem und5 : E.P.underlying 5 = some (.int .u8) := by kernel_rfl
theorem siz5 : tSize E.P 5 = some 1 := by kernel_rfl
theorem byt5 : tBytes E.P 5 = some 1 := by kernel_rfl
theorem agg5 : tAgg E.P 5 = some false := by kernel_rfl
theorem zer5 : tZero E.P 5 = some [.int .u8 (0)] := by kernel_rfl
theorem und6 : E.P.underlying 6 = some (.int .u8) := by kernel_rfl
theorem siz6 : tSize E.P 6 = some 1 := by kernel_rfl
theorem byt6 : tBytes E.P 6 = some 1 := by kernel_rfl
theorem agg6 : tAgg E.P 6 = some false := by kernel_rfl
theorem zer6 : tZero E.P 6 = some [.int .u8 (0)] := by kernel_rfl
theorem siz8 : tSize E.P 8 = some 4 := by kernel_rfl
theorem byt8 : tBytes E.P 8 = some 24 := by kernel_rfl
theorem agg8 : tAgg E.P 8 = some true := by kernel_rfl
theorem zer8 : tZero E.P 8 = some [.int .i64 (0), .int .i64 (0), .bool false, .int .u8 (0)] := by kernel_rfl
theorem fie8_0 : tField E.P 8 0 = some (0, 2) := by kernel_rfl
theorem fie8_1 : tField E.P 8 1 = some (1, 3) := by kernel_rfl
theorem fie8_2 : tField E.P 8 2 = some (2, 4) := by kernel_rfl
theorem fie8_3 : tField E.P 8 3 = some (3, 6) := by kernel_rfl
theorem pla8 : tPlaces E.P 8 = some [(0, 1), (1, 1), (2, 1), (3, 1)] := by kernel_rfl
theorem und9 : E.P.underlying 9 = some (.string) := by kernel_rfl
theorem siz9 : tSize E.P 9 = some 1 := by kernel_rfl
theorem byt9 : tBytes E.P 9 = some 16 := by kernel_rfl
theorem agg9 : tAgg E.P 9 = some false := by kernel_rfl
theorem zer9 : tZero E.P 9 = some [.str []] := by kernel_rfl
theorem und12 : E.P.underlying 12 = some (.int .u64) := by kernel_rfl
theorem siz12 : tSize E.P 12 = some 1 := by kernel_rfl
theorem byt12 : tBytes E.P 12 = some 8 := by kernel_rfl
theorem agg12 : tAgg E.P 12 = some false := by kernel_rfl
theorem zer12 : tZero E.P 12 = some [.int .u64 (0)] := by kernel_rfl
theorem siz13 : tSize E.P 13 = some 2 := by kernel_rfl
theorem byt13 : tBytes E.P 13 = some 24 := by kernel_rfl
theorem agg13 : tAgg E.P 13 = some true := by kernel_rfl
theorem zer13 : tZero E.P 13 = some [.str [], .int .u64 (0)] := by kernel_rfl
theorem fie13_0 : tField E.P 13 0 = some (0, 9) := by kernel_rfl
theorem fie13_1 : tField E.P 13 1 = some (1, 12) := by kernel_rfl
theorem pla13 : tPlaces E.P 13 = some [(0, 1), (1, 1)] := by kernel_rfl
theorem und17 : E.P.underlying 17 = some (.pointer 158) := by kernel_rfl
theorem siz17 : tSize E.P 17 = some 1 := by kernel_rfl
theorem byt17 : tBytes E.P 17 = some 8 := by kernel_rfl
theorem agg17 : tAgg E.P 17 = some false := by kernel_rfl
theorem zer17 : tZero E.P 17 = some [.nilp] := by kernel_rfl
theorem siz19 : tSize E.P 19 = some 1 := by kernel_rfl
theorem byt19 : tBytes E.P 19 = some 8 := by kernel_rfl
theorem agg19 : tAgg E.P 19 = some true := by kernel_rfl
theorem zer19 : tZero E.P 19 = some [.nilp] := by kernel_rfl
theorem fie19_0 : tField E.P 19 0 = some (0, 17) := by kernel_rfl
theorem pla19 : tPlaces E.P 19 = some [(0, 1)] := by kernel_rfl
theorem und22 : E.P.underlying 22 = some (.slice 5) := by kernel_rfl
theorem siz22 : tSize E.P 22 = some 1 := by kernel_rfl
theorem byt22 : tBytes E.P 22 = some 24 := by kernel_rfl
theorem agg22 : tAgg E.P 22 = some false := by kernel_rfl
theorem zer22 : tZero E.P 22 = some [.nils] := by kernel_rfl
theorem siz24 : tSize E.P 24 = some 4 := by kernel_rfl
theorem byt24 : tBytes E.P 24 = some 48 := by kernel_rfl
theorem agg24 : tAgg E.P 24 = some true := by kernel_rfl
theorem zer24 : tZero E.P 24 = some [.bool false, .int .i64 (0), .int .i64 (0), .nils] := by kernel_rfl
theorem fie24_0 : tField E.P 24 0 = some (0, 4) := by kernel_rfl
theorem fie24_1 : tField E.P 24 1 = some (1, 3) := by kernel_rfl
theorem fie24_2 : tField E.P 24 2 = some (2, 2) := by kernel_rfl
theorem fie24_3 : tField E.P 24 3 = some (3, 22) := by kernel_rfl
theorem pla24 : tPlaces E.P 24 = some [(0, 1), (1, 1), (2, 1), (3, 1)] := by kernel_rfl
theorem siz26 : tSize E.P 26 = some 9 := by kernel_rfl
theorem byt26 : tBytes E.P 26 = some 104 := by kernel_rfl
theorem agg26 : tAgg E.P 26 = some true := by kernel_rfl
theorem zer26 : tZero E.P 26 = some [.int .i64 (0), .bool false, .int .i64 (0), .int .i64 (0), .nils, .bool false, .int .i64 (0), .int .i64 (0), .nils] := by kernel_rfl
theorem fie26_0 : tField E.P 26 0 = some (0, 3) := by kernel_rfl
theorem fie26_1 : tField E.P 26 1 = some (1, 24) := by kernel_rfl
theorem fie26_2 : tField E.P 26 2 = some (5, 24) := by kernel_rfl
theorem pla26 : tPlaces E.P 26 = some [(0, 1), (1, 4), (5, 4)] := by kernel_rfl
theorem und27 : E.P.underlying 27 = some (.slice 26) := by kernel_rfl
theorem siz27 : tSize E.P 27 = some 1 := by kernel_rfl
theorem byt27 : tBytes E.P 27 = some 24 := by kernel_rfl
theorem agg27 : tAgg E.P 27 = some false := by kernel_rfl
theorem zer27 : tZero E.P 27 = some [.nils] := by kernel_rfl
theorem und28 : E.P.underlying 28 = some (.slice 30) := by kernel_rfl
theorem siz28 : tSize E.P 28 = some 1 := by kernel_rfl
theorem byt28 : tBytes E.P 28 = some 24 := by kernel_rfl
theorem agg28 : tAgg E.P 28 = some false := by kernel_rfl
theorem zer28 : tZero E.P 28 = some [.nils] := by kernel_rfl
theorem siz30 : tSize E.P 30 = some 8 := by kernel_rfl
theorem byt30 : tBytes E.P 30 = some 96 := by kernel_rfl
theorem agg30 : tAgg E.P 30 = some true := by kernel_rfl
theorem zer30 : tZero E.P 30 = some [.int .i64 (0), .int .i64 (0), .int .i64 (0), .bool false, .int .i64 (0), .int .i64 (0), .nils, .nils] := by kernel_rfl
theorem fie30_0 : tField E.P 30 0 = some (0, 3) := by kernel_rfl
theorem fie30_1 : tField E.P 30 1 = some (1, 3) := by kernel_rfl
theorem fie30_2 : tField E.P 30 2 = some (2, 3) := by kernel_rfl
theorem fie30_3 : tField E.P 30 3 = some (3, 24) := by kernel_rfl
theorem fie30_4 : tField E.P 30 4 = some (7, 28) := by kernel_rfl
theorem pla30 : tPlaces E.P 30 = some [(0, 1), (1, 1), (2, 1), (3, 4), (7, 1)] := by kernel_rfl
theorem siz31 : tSize E.P 31 = some 3 := by kernel_rfl
theorem byt31 : tBytes E.P 31 = some 24 := by kernel_rfl
theorem agg31 : tAgg E.P 31 = some true := by kernel_rfl
theorem zer31 : tZero E.P 31 = some [.int .i64 (0), .int .i64 (0), .bool false] := by kernel_rfl
theorem fie31_0 : tField E.P 31 0 = some (0, 3) := by kernel_rfl
theorem fie31_1 : tField E.P 31 1 = some (1, 2) := by kernel_rfl
theorem fie31_2 : tField E.P 31 2 = some (2, 4) := by kernel_rfl
theorem pla31 : tPlaces E.P 31 = some [(0, 1), (1, 1), (2, 1)] := by kernel_rfl
theorem und32 : E.P.underlying 32 = some (.slice 31) := by kernel_rfl
theorem siz32 : tSize E.P 32 = some 1 := by kernel_rfl
theorem byt32 : tBytes E.P 32 = some 24 := by kernel_rfl
theorem agg32 : tAgg E.P 32 = some false := by kernel_rfl
theorem zer32 : tZero E.P 32 = some [.nils] := by kernel_rfl
theorem und36 : E.P.underlying 36 = some (.slice 3) := by kernel_rfl
theorem siz36 : tSize E.P 36 = some 1 := by kernel_rfl
theorem byt36 : tBytes E.P 36 = some 24 := by kernel_rfl
theorem agg36 : tAgg E.P 36 = some false := by kernel_rfl
theorem zer36 : tZero E.P 36 = some [.nils] := by kernel_rfl
theorem und37 : E.P.underlying 37 = some (.slice 49) := by kernel_rfl
theorem siz37 : tSize E.P 37 = some 1 := by kernel_rfl
theorem byt37 : tBytes E.P 37 = some 24 := by kernel_rfl
theorem agg37 : tAgg E.P 37 = some false := by kernel_rfl
theorem zer37 : tZero E.P 37 = some [.nils] := by kernel_rfl
theorem siz39 : tSize E.P 39 = some 1 := by kernel_rfl
theorem byt39 : tBytes E.P 39 = some 24 := by kernel_rfl
theorem agg39 : tAgg E.P 39 = some true := by kernel_rfl
theorem zer39 : tZero E.P 39 = some [.nils] := by kernel_rfl
theorem fie39_0 : tField E.P 39 0 = some (0, 37) := by kernel_rfl
theorem pla39 : tPlaces E.P 39 = some [(0, 1)] := by kernel_rfl
theorem und41 : E.P.underlying 41 = some (.slice 45) := by kernel_rfl
theorem siz41 : tSize E.P 41 = some 1 := by kernel_rfl
theorem byt41 : tBytes E.P 41 = some 24 := by kernel_rfl
theorem agg41 : tAgg E.P 41 = some false := by kernel_rfl
theorem zer41 : tZero E.P 41 = some [.nils] := by kernel_rfl
theorem und45 : E.P.underlying 45 = some (.slice 24) := by kernel_rfl
theorem siz45 : tSize E.P 45 = some 1 := by kernel_rfl
theorem byt45 : tBytes E.P 45 = some 24 := by kernel_rfl
theorem agg45 : tAgg E.P 45 = some false := by kernel_rfl
theorem zer45 : tZero E.P 45 = some [.nils] := by kernel_rfl
theorem und47 : E.P.underlying 47 = some (.slice 22) := by kernel_rfl
theorem siz47 : tSize E.P 47 = some 1 := by kernel_rfl
theorem byt47 : tBytes E.P 47 = some 24 := by kernel_rfl
theorem agg47 : tAgg E.P 47 = some false := by kernel_rfl
theorem zer47 : tZero E.P 47 = some [.nils] := by kernel_rfl
theorem siz49 : tSize E.P 49 = some 3 := by kernel_rfl
theorem byt49 : tBytes E.P 49 = some 32 := by kernel_rfl
theorem agg49 : tAgg E.P 49 = some true := by kernel_rfl
theorem zer49 : tZero E.P 49 = some [.str [], .int .i64 (0), .bool false] := by kernel_rfl
theorem fie49_0 : tField E.P 49 0 = some (0, 9) := by kernel_rfl
theorem fie49_1 : tField E.P 49 1 = some (1, 3) := by kernel_rfl
theorem fie49_2 : tField E.P 49 2 = some (2, 4) := by kernel_rfl
theorem pla49 : tPlaces E.P 49 = some [(0, 1), (1, 1), (2, 1)] := by kernel_rfl
theorem siz55 : tSize E.P 55 = some 4 := by kernel_rfl
theorem byt55 : tBytes E.P 55 = some 32 := by kernel_rfl
theorem agg55 : tAgg E.P 55 = some true := by kernel_rfl
theorem zer55 : tZero E.P 55 = some [.int .i64 (0), .int .i64 (0), .int .i64 (0), .int .i64 (0)] := by kernel_rfl
theorem fie55_0 : tField E.P 55 0 = some (0, 3) := by kernel_rfl
theorem fie55_1 : tField E.P 55 1 = some (1, 3) := by kernel_rfl
theorem fie55_2 : tField E.P 55 2 = some (2, 3) := by kernel_rfl
theorem fie55_3 : tField E.P 55 3 = some (3, 3) := by kernel_rfl
theorem pla55 : tPlaces E.P 55 = some [(0, 1), (1, 1), (2, 1), (3, 1)] := by kernel_rfl
theorem und56 : E.P.underlying 56 = some (.slice 55) := by kernel_rfl
theorem siz56 : tSize E.P 56 = some 1 := by kernel_rfl
theorem byt56 : tBytes E.P 56 = some 24 := by kernel_rfl
theorem agg56 : tAgg E.P 56 = some false := by kernel_rfl
theorem zer56 : tZero E.P 56 = some [.nils] := by kernel_rfl
theorem siz58 : tSize E.P 58 = some 2 := by kernel_rfl
theorem byt58 : tBytes E.P 58 = some 16 := by kernel_rfl
theorem agg58 : tAgg E.P 58 = some true := by kernel_rfl
theorem zer58 : tZero E.P 58 = some [.int .i64 (0), .int .i64 (0)] := by kernel_rfl
theorem fie58_0 : tField E.P 58 0 = some (0, 3) := by kernel_rfl
theorem fie58_1 : tField E.P 58 1 = some (1, 3) := by kernel_rfl
theorem pla58 : tPlaces E.P 58 = some [(0, 1), (1, 1)] := by kernel_rfl
theorem siz60 : tSize E.P 60 = some 7 := by kernel_rfl
theorem byt60 : tBytes E.P 60 = some 56 := by kernel_rfl
theorem agg60 : tAgg E.P 60 = some true := by kernel_rfl
theorem zer60 : tZero E.P 60 = some [.int .i64 (0), .int .i64 (0), .int .i64 (0), .int .i64 (0), .int .i64 (0), .bool false, .int .i64 (0)] := by kernel_rfl
theorem fie60_0 : tField E.P 60 0 = some (0, 58) := by kernel_rfl
theorem fie60_1 : tField E.P 60 1 = some (2, 58) := by kernel_rfl
theorem fie60_2 : tField E.P 60 2 = some (4, 3) := by kernel_rfl
theorem fie60_3 : tField E.P 60 3 = some (5, 4) := by kernel_rfl
theorem fie60_4 : tField E.P 60 4 = some (6, 3) := by kernel_rfl
theorem pla60 : tPlaces E.P 60 = some [(0, 2), (2, 2), (4, 1), (5, 1), (6, 1)] := by kernel_rfl
theorem und61 : E.P.underlying 61 = some (.slice 60) := by kernel_rfl
theorem siz61 : tSize E.P 61 = some 1 := by kernel_rfl
theorem byt61 : tBytes E.P 61 = some 24 := by kernel_rfl
theorem agg61 : tAgg E.P 61 = some false := by kernel_rfl
theorem zer61 : tZero E.P 61 = some [.nils] := by kernel_rfl
theorem siz65 : tSize E.P 65 = some 4 := by kernel_rfl
theorem byt65 : tBytes E.P 65 = some 32 := by kernel_rfl
theorem agg65 : tAgg E.P 65 = some true := by kernel_rfl
theorem zer65 : tZero E.P 65 = some [.int .i64 (0), .int .i64 (0), .int .i64 (0), .int .i64 (0)] := by kernel_rfl
theorem fie65_0 : tField E.P 65 0 = some (0, 58) := by kernel_rfl
theorem fie65_1 : tField E.P 65 1 = some (2, 58) := by kernel_rfl
theorem pla65 : tPlaces E.P 65 = some [(0, 2), (2, 2)] := by kernel_rfl
theorem und70 : E.P.underlying 70 = some (.int .u64) := by kernel_rfl
theorem siz70 : tSize E.P 70 = some 1 := by kernel_rfl
theorem byt70 : tBytes E.P 70 = some 8 := by kernel_rfl
theorem agg70 : tAgg E.P 70 = some false := by kernel_rfl
theorem zer70 : tZero E.P 70 = some [.int .u64 (0)] := by kernel_rfl
theorem siz78 : tSize E.P 78 = some 1 := by kernel_rfl
theorem byt78 : tBytes E.P 78 = some 8 := by kernel_rfl
theorem agg78 : tAgg E.P 78 = some false := by kernel_rfl
theorem zer78 : tZero E.P 78 = some [.nilf] := by kernel_rfl
theorem und80 : E.P.underlying 80 = some (.slice 9) := by kernel_rfl
theorem siz80 : tSize E.P 80 = some 1 := by kernel_rfl
theorem byt80 : tBytes E.P 80 = some 24 := by kernel_rfl
theorem agg80 : tAgg E.P 80 = some false := by kernel_rfl
theorem zer80 : tZero E.P 80 = some [.nils] := by kernel_rfl
theorem siz91 : tSize E.P 91 = some 1 := by kernel_rfl
theorem byt91 : tBytes E.P 91 = some 8 := by kernel_rfl
theorem agg91 : tAgg E.P 91 = some false := by kernel_rfl
theorem zer91 : tZero E.P 91 = some [.nilf] := by kernel_rfl
theorem und92 : E.P.underlying 92 = some (.slice 28) := by kernel_rfl
theorem siz92 : tSize E.P 92 = some 1 := by kernel_rfl
theorem byt92 : tBytes E.P 92 = some 24 := by kernel_rfl
theorem agg92 : tAgg E.P 92 = some false := by kernel_rfl
theorem zer92 : tZero E.P 92 = some [.nils] := by kernel_rfl
theorem siz94 : tSize E.P 94 = some 2 := by kernel_rfl
theorem byt94 : tBytes E.P 94 = some 32 := by kernel_rfl
theorem agg94 : tAgg E.P 94 = some true := by kernel_rfl
theorem zer94 : tZero E.P 94 = some [.nils, .bool false] := by kernel_rfl
theorem fie94_0 : tField E.P 94 0 = some (0, 92) := by kernel_rfl
theorem fie94_1 : tField E.P 94 1 = some (1, 4) := by kernel_rfl
theorem pla94 : tPlaces E.P 94 = some [(0, 1), (1, 1)] := by kernel_rfl
theorem und120 : E.P.underlying 120 = some (.int .i64) := by kernel_rfl
theorem siz120 : tSize E.P 120 = some 1 := by kernel_rfl
theorem byt120 : tBytes E.P 120 = some 8 := by kernel_rfl
theorem agg120 : tAgg E.P 120 = some false := by kernel_rfl
theorem zer120 : tZero E.P 120 = some [.int .i64 (0)] := by kernel_rfl
theorem und127 : E.P.underlying 127 = some (.int .u32) := by kernel_rfl
theorem siz127 : tSize E.P 127 = some 1 := by kernel_rfl
theorem byt127 : tBytes E.P 127 = some 4 := by kernel_rfl
theorem agg127 : tAgg E.P 127 = some false := by kernel_rfl
theorem zer127 : tZero E.P 127 = some [.int .u32 (0)] := by kernel_rfl
theorem und129 : E.P.underlying 129 = some (.int .u64) := by kernel_rfl
theorem siz129 : tSize E.P 129 = some 1 := by kernel_rfl
theorem byt129 : tBytes E.P 129 = some 8 := by kernel_rfl
theorem agg129 : tAgg E.P 129 = some false := by kernel_rfl
theorem zer129 : tZero E.P 129 = some [.int .u64 (0)] := by kernel_rfl
theorem und132 : E.P.underlying 132 = some (.int .u64) := by kernel_rfl
theorem siz132 : tSize E.P 132 = some 1 := by kernel_rfl
theorem byt132 : tBytes E.P 132 = some 8 := by kernel_rfl
theorem agg132 : tAgg E.P 132 = some false := by kernel_rfl
theorem zer132 : tZero E.P 132 = some [.int .u64 (0)] := by kernel_rfl
theorem und136 : E.P.underlying 136 = some (.pointer 3) := by kernel_rfl
theorem siz136 : tSize E.P 136 = some 1 := by kernel_rfl
theorem byt136 : tBytes E.P 136 = some 8 := by kernel_rfl
theorem agg136 : tAgg E.P 136 = some false := by kernel_rfl
theorem zer136 : tZero E.P 136 = some [.nilp] := by kernel_rfl
theorem und139 : E.P.underlying 139 = some (.slice 92) := by kernel_rfl
theorem siz139 : tSize E.P 139 = some 1 := by kernel_rfl
theorem byt139 : tBytes E.P 139 = some 24 := by kernel_rfl
theorem agg139 : tAgg E.P 139 = some false := by kernel_rfl
theorem zer139 : tZero E.P 139 = some [.nils] := by kernel_rfl
theorem und151 : E.P.underlying 151 = some (.int .u8) := by kernel_rfl
theorem siz151 : tSize E.P 151 = some 1 := by kernel_rfl
theorem byt151 : tBytes E.P 151 = some 1 := by kernel_rfl
theorem agg151 : tAgg E.P 151 = some false := by kernel_rfl
theorem zer151 : tZero E.P 151 = some [.int .u8 (0)] := by kernel_rfl
theorem und152 : E.P.underlying 152 = some (.int .u8) := by kernel_rfl
theorem siz152 : tSize E.P 152 = some 1 := by kernel_rfl
theorem byt152 : tBytes E.P 152 = some 1 := by kernel_rfl
theorem agg152 : tAgg E.P 152 = some false := by kernel_rfl
theorem zer152 : tZero E.P 152 = some [.int .u8 (0)] := by kernel_rfl
theorem siz153 : tSize E.P 153 = some 1 := by kernel_rfl
theorem byt153 : tBytes E.P 153 = some 8 := by kernel_rfl
theorem agg153 : tAgg E.P 153 = some false := by kernel_rfl
theorem zer153 : tZero E.P 153 = some [.nilf] := by kernel_rfl
theorem und154 : E.P.underlying 154 = some (.pointer 5) := by kernel_rfl
theorem siz154 : tSize E.P 154 = some 1 := by kernel_rfl
theorem byt154 : tBytes E.P 154 = some 8 := by kernel_rfl
theorem agg154 : tAgg E.P 154 = some false := by kernel_rfl
theorem zer154 : tZero E.P 154 = some [.nilp] := by kernel_rfl
theorem und155 : E.P.underlying 155 = some (.int .i32) := by kernel_rfl
theorem siz155 : tSize E.P 155 = some 1 := by kernel_rfl
theorem byt155 : tBytes E.P 155 = some 4 := by kernel_rfl
theorem agg155 : tAgg E.P 155 = some false := by kernel_rfl
theorem zer155 : tZero E.P 155 = some [.int .i32 (0)] := by kernel_rfl
theorem und156 : E.P.underlying 156 = some (.int .i32) := by kernel_rfl
theorem siz156 : tSize E.P 156 = some 1 := by kernel_rfl
theorem byt156 : tBytes E.P 156 = some 4 := by kernel_rfl
theorem agg156 : tAgg E.P 156 = some false := by kernel_rfl
theorem zer156 : tZero E.P 156 = some [.int .i32 (0)] := by kernel_rfl
theorem siz158 : tSize E.P 158 = some 11 := by kernel_rfl
theorem byt158 : tBytes E.P 158 = some 48 := by kernel_rfl
theorem agg158 : tAgg E.P 158 = some true := by kernel_rfl
theorem zer158 : tZero E.P 158 = some [.int .u64 (0), .int .u64 (0), .int .u32 (0), .int .u8 (0), .int .u8 (0), .int .u8 (0), .int .u8 (0), .nilf, .nilp, .int .i32 (0), .int .i32 (0)] := by kernel_rfl
theorem fie158_0 : tField E.P 158 0 = some (0, 12) := by kernel_rfl
theorem fie158_1 : tField E.P 158 1 = some (1, 12) := by kernel_rfl
theorem fie158_2 : tField E.P 158 2 = some (2, 127) := by kernel_rfl
theorem fie158_3 : tField E.P 158 3 = some (3, 151) := by kernel_rfl
theorem fie158_4 : tField E.P 158 4 = some (4, 5) := by kernel_rfl
theorem fie158_5 : tField E.P 158 5 = some (5, 5) := by kernel_rfl
theorem fie158_6 : tField E.P 158 6 = some (6, 152) := by kernel_rfl
theorem fie158_7 : tField E.P 158 7 = some (7, 153) := by kernel_rfl
theorem fie158_8 : tField E.P 158 8 = some (8, 154) := by kernel_rfl
theorem fie158_9 : tField E.P 158 9 = some (9, 155) := by kernel_rfl
theorem fie158_10 : tField E.P 158 10 = some (10, 156) := by kernel_rfl
theorem pla158 : tPlaces E.P 158 = some [(0, 1), (1, 1), (2, 1), (3, 1), (4, 1), (5, 1), (6, 1), (7, 1), (8, 1), (9, 1), (10, 1)] := by kernel_rfl
theorem res3 : Try.f3.results.toList = [.tmp 2] := by kernel_rfl
theorem ext3 : E.ext 3 = none := by kernel_rfl
theorem res4 : Try.f4.results.toList = [.tmp 6] := by kernel_rfl
theorem ext4 : E.ext 4 = none := by kernel_rfl
theorem lv4_8 : E.lv 4 8 = [⟨8, []⟩, ⟨10, []⟩, ⟨11, []⟩, ⟨12, []⟩, ⟨66, []⟩, ⟨67, []⟩] := by kernel_rfl
theorem lv4_13 : E.lv 4 13 = [⟨8, []⟩, ⟨10, []⟩, ⟨11, []⟩, ⟨12, []⟩, ⟨13, []⟩, ⟨66, []⟩, ⟨67, []⟩, ⟨95, []⟩, ⟨96, []⟩, ⟨97, []⟩] := by kernel_rfl
theorem lv4_19 : E.lv 4 19 = [⟨8, []⟩, ⟨10, []⟩, ⟨11, []⟩, ⟨12, []⟩, ⟨13, []⟩, ⟨66, []⟩, ⟨67, []⟩, ⟨136, []⟩, ⟨137, []⟩, ⟨138, []⟩] := by kernel_rfl
theorem res5 : Try.f5.results.toList = [.tmp 4] := by kernel_rfl
theorem ext5 : E.ext 5 = none := by kernel_rfl
theorem lv5_7 : E.lv 5 7 = [⟨0, []⟩, ⟨3, []⟩, ⟨5, []⟩, ⟨6, []⟩, ⟨7, []⟩, ⟨8, []⟩, ⟨27, []⟩, ⟨28, []⟩, ⟨29, []⟩] := by kernel_rfl
theorem res6 : Try.f6.results.toList = [.tmp 6] := by kernel_rfl
theorem ext6 : E.ext 6 = none := by kernel_rfl
theorem lv6_9 : E.lv 6 9 = [⟨10, []⟩, ⟨11, []⟩, ⟨36, []⟩, ⟨37, []⟩, ⟨38, []⟩] := by kernel_rfl
theorem res7 : Try.f7.results.toList = [.tmp 2] := by kernel_rfl
theorem ext7 : E.ext 7 = none := by kernel_rfl
theorem res8 : Try.f8.results.toList = [.tmp 6] := by kernel_rfl
theorem ext8 : E.ext 8 = none := by kernel_rfl
theorem res9 : Try.f9.results.toList = [.tmp 8] := by kernel_rfl
theorem ext9 : E.ext 9 = none := by kernel_rfl
theorem res10 : Try.f10.results.toList = [.tmp 4] := by kernel_rfl
theorem ext10 : E.ext 10 = none := by kernel_rfl
theorem lv10_4 : E.lv 10 4 = [⟨0, []⟩, ⟨16, []⟩, ⟨17, []⟩, ⟨18, []⟩] := by kernel_rfl
theorem lv10_8 : E.lv 10 8 = [⟨0, []⟩, ⟨6, []⟩, ⟨7, []⟩, ⟨8, []⟩, ⟨16, []⟩, ⟨17, []⟩, ⟨18, []⟩] := by kernel_rfl
theorem res11 : Try.f11.results.toList = [.tmp 6] := by kernel_rfl
theorem ext11 : E.ext 11 = none := by kernel_rfl
theorem lv11_7 : E.lv 11 7 = [⟨2, []⟩, ⟨7, []⟩, ⟨8, []⟩, ⟨9, []⟩, ⟨10, []⟩, ⟨40, []⟩, ⟨41, []⟩] := by kernel_rfl
theorem lv11_10 : E.lv 11 10 = [⟨2, []⟩, ⟨7, []⟩, ⟨8, []⟩, ⟨9, []⟩, ⟨10, []⟩, ⟨11, []⟩, ⟨40, []⟩, ⟨41, []⟩, ⟨44, []⟩, ⟨45, []⟩, ⟨46, []⟩] := by kernel_rfl
theorem res12 : Try.f12.results.toList = [.tmp 6] := by kernel_rfl
theorem ext12 : E.ext 12 = none := by kernel_rfl
theorem res13 : Try.f13.results.toList = [.tmp 0] := by kernel_rfl
theorem ext13 : E.ext 13 = none := by kernel_rfl
theorem res14 : Try.f14.results.toList = [.cell 2 39] := by kernel_rfl
theorem ext14 : E.ext 14 = none := by kernel_rfl
theorem lv14_4 : E.lv 14 4 = [⟨0, []⟩, ⟨2, []⟩, ⟨3, []⟩, ⟨4, []⟩, ⟨5, []⟩] := by kernel_rfl
theorem res15 : Try.f15.results.toList = [.tmp 4] := by kernel_rfl
theorem ext15 : E.ext 15 = none := by kernel_rfl
theorem lv15_3 : E.lv 15 3 = [⟨1, []⟩, ⟨2, []⟩, ⟨5, [(0, 45, 1)]⟩, ⟨6, []⟩] := by kernel_rfl
theorem res16 : Try.f16.results.toList = [.tmp 4] := by kernel_rfl
theorem ext16 : E.ext 16 = none := by kernel_rfl
theorem lv16_3 : E.lv 16 3 = [⟨1, []⟩, ⟨5, [(0, 26, 9)]⟩, ⟨13, []⟩, ⟨14, []⟩, ⟨15, []⟩] := by kernel_rfl
theorem lv16_8 : E.lv 16 8 = [⟨1, []⟩, ⟨5, []⟩, ⟨6, []⟩, ⟨9, []⟩, ⟨13, []⟩, ⟨14, []⟩, ⟨15, []⟩, ⟨26, []⟩, ⟨27, []⟩, ⟨28, []⟩] := by kernel_rfl
theorem res17 : Try.f17.results.toList = [.tmp 4] := by kernel_rfl
theorem ext17 : E.ext 17 = none := by kernel_rfl
theorem res18 : Try.f18.results.toList = [.tmp 5] := by kernel_rfl
theorem ext18 : E.ext 18 = none := by kernel_rfl
theorem res19 : Try.f19.results.toList = [.cell 8 30] := by kernel_rfl
theorem ext19 : E.ext 19 = none := by kernel_rfl
theorem lv19_17 : E.lv 19 17 = [⟨1, []⟩, ⟨2, []⟩, ⟨3, []⟩, ⟨4, []⟩, ⟨8, []⟩, ⟨9, []⟩, ⟨12, []⟩, ⟨13, []⟩] := by kernel_rfl
theorem res20 : Try.f20.results.toList = [.tmp 4] := by kernel_rfl
theorem ext20 : E.ext 20 = none := by kernel_rfl
theorem lv20_21 : E.lv 20 21 = [⟨1, []⟩, ⟨2, []⟩, ⟨5, []⟩, ⟨6, []⟩, ⟨7, []⟩] := by kernel_rfl
theorem res21 : Try.f21.results.toList = [.cell 2 58] := by kernel_rfl
theorem ext21 : E.ext 21 = none := by kernel_rfl
theorem res22 : Try.f22.results.toList = [.cell 2 58] := by kernel_rfl
theorem ext22 : E.ext 22 = none := by kernel_rfl
theorem res23 : Try.f23.results.toList = [.tmp 8, .tmp 9] := by kernel_rfl
theorem ext23 : E.ext 23 = none := by kernel_rfl
theorem res24 : Try.f24.results.toList = [.tmp 0] := by kernel_rfl
theorem ext24 : E.ext 24 = none := by kernel_rfl
theorem res25 : Try.f25.results.toList = [.tmp 2] := by kernel_rfl
theorem ext25 : E.ext 25 = none := by kernel_rfl
theorem lv25_3 : E.lv 25 3 = [⟨0, []⟩, ⟨3, [(0, 55, 4)]⟩, ⟨4, []⟩] := by kernel_rfl
theorem res26 : Try.f26.results.toList = [.tmp 8, .tmp 9] := by kernel_rfl
theorem ext26 : E.ext 26 = none := by kernel_rfl
theorem res27 : Try.f27.results.toList = [.cell 2 58] := by kernel_rfl
theorem ext27 : E.ext 27 = none := by kernel_rfl
theorem res28 : Try.f28.results.toList = [.tmp 4] := by kernel_rfl
theorem ext28 : E.ext 28 = none := by kernel_rfl
theorem lv28_4 : E.lv 28 4 = [⟨0, []⟩, ⟨1, []⟩, ⟨5, []⟩] := by kernel_rfl
theorem res29 : Try.f29.results.toList = [.tmp 6] := by kernel_rfl
theorem ext29 : E.ext 29 = none := by kernel_rfl
theorem res30 : Try.f30.results.toList = [.tmp 3] := by kernel_rfl
theorem ext30 : E.ext 30 = none := by kernel_rfl
theorem res31 : Try.f31.results.toList = [.cell 4 55] := by kernel_rfl
theorem ext31 : E.ext 31 = none := by kernel_rfl
theorem res32 : Try.f32.results.toList = [.cell 2 30, .tmp 3] := by kernel_rfl
theorem ext32 : E.ext 32 = none := by kernel_rfl
theorem lv32_6 : E.lv 32 6 = [⟨2, []⟩, ⟨5, [(0, 30, 8)]⟩, ⟨15, []⟩, ⟨16, []⟩, ⟨17, []⟩] := by kernel_rfl
theorem res33 : Try.f33.results.toList = [.tmp 4] := by kernel_rfl
theorem ext33 : E.ext 33 = none := by kernel_rfl
theorem res34 : Try.f34.results.toList = [.tmp 4] := by kernel_rfl
theorem ext34 : E.ext 34 = none := by kernel_rfl
theorem res35 : Try.f35.results.toList = [.tmp 4] := by kernel_rfl
theorem ext35 : E.ext 35 = none := by kernel_rfl
theorem res36 : Try.f36.results.toList = [.tmp 6] := by kernel_rfl
theorem ext36 : E.ext 36 = none := by kernel_rfl
theorem res37 : Try.f37.results.toList = [.cell 4 30] := by kernel_rfl
theorem ext37 : E.ext 37 = none := by kernel_rfl
theorem res38 : Try.f38.results.toList = [.tmp 4] := by kernel_rfl
theorem ext38 : E.ext 38 = none := by kernel_rfl
theorem lv38_3 : E.lv 38 3 = [⟨1, []⟩, ⟨5, [(0, 24, 4)]⟩, ⟨9, []⟩, ⟨10, []⟩, ⟨11, []⟩] := by kernel_rfl
theorem res39 : Try.f39.results.toList = [.cell 4 26] := by kernel_rfl
theorem ext39 : E.ext 39 = none := by kernel_rfl
theorem res40 : Try.f40.results.toList = [.tmp 2] := by kernel_rfl
theorem ext40 : E.ext 40 = some .clip := by kernel_rfl
theorem res41 : Try.f41.results.toList = [.cell 4 24] := by kernel_rfl
theorem ext41 : E.ext 41 = none := by kernel_rfl
theorem res42 : Try.f42.results.toList = [.tmp 2] := by kernel_rfl
theorem ext42 : E.ext 42 = none := by kernel_rfl
theorem res43 : Try.f43.results.toList = [.tmp 4] := by kernel_rfl
theorem ext43 : E.ext 43 = none := by kernel_rfl
theorem res44 : Try.f44.results.toList = [.tmp 10, .tmp 11] := by kernel_rfl
theorem ext44 : E.ext 44 = none := by kernel_rfl
theorem res45 : Try.f45.results.toList = [.cell 2 65] := by kernel_rfl
theorem ext45 : E.ext 45 = none := by kernel_rfl
theorem res46 : Try.f46.results.toList = [.tmp 2] := by kernel_rfl
theorem ext46 : E.ext 46 = none := by kernel_rfl
theorem res47 : Try.f47.results.toList = [.tmp 4] := by kernel_rfl
theorem ext47 : E.ext 47 = none := by kernel_rfl
theorem lv47_2 : E.lv 47 2 = [⟨0, []⟩, ⟨1, []⟩, ⟨7, []⟩, ⟨8, []⟩] := by kernel_rfl
theorem res48 : Try.f48.results.toList = [.tmp 3] := by kernel_rfl
theorem ext48 : E.ext 48 = none := by kernel_rfl
theorem res49 : Try.f49.results.toList = [.cell 4 94] := by kernel_rfl
theorem ext49 : E.ext 49 = none := by kernel_rfl
theorem res50 : Try.f50.results.toList = [.cell 2 30] := by kernel_rfl
theorem ext50 : E.ext 50 = none := by kernel_rfl
theorem res51 : Try.f51.results.toList = [.cell 2 30] := by kernel_rfl
theorem ext51 : E.ext 51 = none := by kernel_rfl
theorem res52 : Try.f52.results.toList = [.tmp 4] := by kernel_rfl
theorem ext52 : E.ext 52 = none := by kernel_rfl
theorem lv52_2 : E.lv 52 2 = [⟨0, []⟩, ⟨1, []⟩, ⟨7, []⟩, ⟨8, []⟩] := by kernel_rfl
theorem res53 : Try.f53.results.toList = [.tmp 4] := by kernel_rfl
theorem ext53 : E.ext 53 = none := by kernel_rfl
theorem res54 : Try.f54.results.toList = [.cell 2 24] := by kernel_rfl
theorem ext54 : E.ext 54 = none := by kernel_rfl
theorem res55 : Try.f55.results.toList = [.tmp 4] := by kernel_rfl
theorem ext55 : E.ext 55 = none := by kernel_rfl
theorem res56 : Try.f56.results.toList = [.tmp 6, .tmp 7] := by kernel_rfl
theorem ext56 : E.ext 56 = none := by kernel_rfl
theorem res57 : Try.f57.results.toList = [] := by kernel_rfl
theorem ext57 : E.ext 57 = none := by kernel_rfl
theorem res58 : Try.f58.results.toList = [.tmp 2] := by kernel_rfl
theorem ext58 : E.ext 58 = none := by kernel_rfl
theorem lv58_4 : E.lv 58 4 = [⟨0, []⟩, ⟨3, []⟩] := by kernel_rfl
theorem lv58_9 : E.lv 58 9 = [⟨0, []⟩, ⟨3, []⟩, ⟨4, []⟩, ⟨5, []⟩] := by kernel_rfl
theorem res59 : Try.f59.results.toList = [.cell 0 94] := by kernel_rfl
theorem ext59 : E.ext 59 = none := by kernel_rfl
theorem res60 : Try.f60.results.toList = [.cell 0 94] := by kernel_rfl
theorem ext60 : E.ext 60 = none := by kernel_rfl
theorem res61 : Try.f61.results.toList = [.tmp 2] := by kernel_rfl
theorem ext61 : E.ext 61 = none := by kernel_rfl
theorem res62 : Try.f62.results.toList = [.cell 2 94] := by kernel_rfl
theorem ext62 : E.ext 62 = none := by kernel_rfl
theorem res63 : Try.f63.results.toList = [.cell 2 30] := by kernel_rfl
theorem ext63 : E.ext 63 = none := by kernel_rfl
theorem res64 : Try.f64.results.toList = [.cell 6 94] := by kernel_rfl
theorem ext64 : E.ext 64 = none := by kernel_rfl
theorem lv64_5 : E.lv 64 5 = [⟨1, []⟩, ⟨2, []⟩, ⟨6, []⟩, ⟨7, [(0, 28, 1)]⟩, ⟨14, []⟩, ⟨15, []⟩, ⟨16, []⟩] := by kernel_rfl
theorem res65 : Try.f65.results.toList = [.tmp 2] := by kernel_rfl
theorem ext65 : E.ext 65 = none := by kernel_rfl
theorem res66 : Try.f66.results.toList = [.tmp 4] := by kernel_rfl
theorem ext66 : E.ext 66 = none := by kernel_rfl
theorem res67 : Try.f67.results.toList = [.tmp 2] := by kernel_rfl
theorem ext67 : E.ext 67 = some (.fn (cloneF 5 1 1)) := by kernel_rfl
theorem res68 : Try.f68.results.toList = [.tmp 4] := by kernel_rfl
theorem ext68 : E.ext 68 = none := by kernel_rfl
theorem res69 : Try.f69.results.toList = [.tmp 2] := by kernel_rfl
theorem ext69 : E.ext 69 = none := by kernel_rfl
theorem res70 : Try.f70.results.toList = [.tmp 4] := by kernel_rfl
theorem ext70 : E.ext 70 = none := by kernel_rfl
theorem res71 : Try.f71.results.toList = [.tmp 4] := by kernel_rfl
theorem ext71 : E.ext 71 = some (.fn compareF) := by kernel_rfl
theorem res72 : Try.f72.results.toList = [] := by kernel_rfl
theorem ext72 : E.ext 72 = none := by kernel_rfl
theorem lv72_2 : E.lv 72 2 = [⟨0, []⟩, ⟨1, []⟩, ⟨2, []⟩, ⟨3, []⟩, ⟨8, []⟩, ⟨9, []⟩] := by kernel_rfl
theorem res73 : Try.f73.results.toList = [.tmp 2] := by kernel_rfl
theorem ext73 : E.ext 73 = none := by kernel_rfl
theorem res74 : Try.f74.results.toList = [.cell 2 30] := by kernel_rfl
theorem ext74 : E.ext 74 = none := by kernel_rfl
theorem lv74_4 : E.lv 74 4 = [⟨1, []⟩, ⟨2, []⟩, ⟨3, [(0, 30, 8)]⟩, ⟨11, []⟩, ⟨12, []⟩, ⟨13, []⟩] := by kernel_rfl
theorem res75 : Try.f75.results.toList = [.cell 4 94] := by kernel_rfl
theorem ext75 : E.ext 75 = none := by kernel_rfl
theorem lv75_5 : E.lv 75 5 = [⟨3, []⟩, ⟨4, []⟩, ⟨5, [(0, 28, 1)]⟩, ⟨33, []⟩, ⟨34, []⟩, ⟨35, []⟩] := by kernel_rfl
theorem lv75_8 : E.lv 75 8 = [⟨3, []⟩, ⟨4, []⟩, ⟨5, [(0, 28, 1)]⟩, ⟨7, []⟩, ⟨33, []⟩, ⟨34, []⟩, ⟨35, []⟩, ⟨40, []⟩, ⟨41, []⟩, ⟨42, []⟩] := by kernel_rfl
theorem res76 : Try.f76.results.toList = [.cell 4 94] := by kernel_rfl
theorem ext76 : E.ext 76 = none := by kernel_rfl
theorem res77 : Try.f77.results.toList = [.tmp 2] := by kernel_rfl
theorem ext77 : E.ext 77 = none := by kernel_rfl
theorem res78 : Try.f78.results.toList = [.tmp 2] := by kernel_rfl
theorem ext78 : E.ext 78 = none := by kernel_rfl
theorem res80 : Try.f80.results.toList = [] := by kernel_rfl
theorem ext80 : E.ext 80 = none := by kernel_rfl
theorem lv80_1 : E.lv 80 1 = [⟨0, []⟩, ⟨1, []⟩, ⟨2, []⟩, ⟨6, []⟩] := by kernel_rfl
theorem lv80_4 : E.lv 80 4 = [⟨0, []⟩, ⟨1, []⟩, ⟨2, []⟩, ⟨6, []⟩, ⟨7, []⟩] := by kernel_rfl
theorem res81 : Try.f81.results.toList = [] := by kernel_rfl
theorem ext81 : E.ext 81 = none := by kernel_rfl
theorem lv81_4 : E.lv 81 4 = [⟨0, []⟩, ⟨6, []⟩, ⟨7, []⟩, ⟨8, []⟩, ⟨9, []⟩] := by kernel_rfl
theorem lv81_8 : E.lv 81 8 = [⟨0, []⟩, ⟨6, []⟩, ⟨7, []⟩, ⟨10, []⟩] := by kernel_rfl
theorem res82 : Try.f82.results.toList = [] := by kernel_rfl
theorem ext82 : E.ext 82 = none := by kernel_rfl
theorem lv82_5 : E.lv 82 5 = [⟨0, []⟩, ⟨1, []⟩, ⟨6, []⟩, ⟨7, []⟩, ⟨8, []⟩, ⟨9, []⟩] := by kernel_rfl
theorem res83 : Try.f83.results.toList = [.tmp 6, .tmp 7] := by kernel_rfl
theorem ext83 : E.ext 83 = none := by kernel_rfl
theorem res84 : Try.f84.results.toList = [] := by kernel_rfl
theorem ext84 : E.ext 84 = none := by kernel_rfl
theorem lv84_2 : E.lv 84 2 = [⟨0, []⟩, ⟨6, []⟩, ⟨7, []⟩] := by kernel_rfl
theorem res85 : Try.f85.results.toList = [.tmp 6] := by kernel_rfl
theorem ext85 : E.ext 85 = none := by kernel_rfl
theorem lv85_3 : E.lv 85 3 = [⟨0, []⟩, ⟨1, []⟩, ⟨2, []⟩, ⟨7, []⟩, ⟨8, []⟩] := by kernel_rfl
theorem lv85_5 : E.lv 85 5 = [⟨0, []⟩, ⟨1, []⟩, ⟨2, []⟩, ⟨7, []⟩, ⟨8, []⟩] := by kernel_rfl
theorem lv85_14 : E.lv 85 14 = [⟨0, []⟩, ⟨1, []⟩, ⟨2, []⟩, ⟨7, []⟩, ⟨8, []⟩, ⟨9, []⟩] := by kernel_rfl
theorem lv85_20 : E.lv 85 20 = [⟨0, []⟩, ⟨1, []⟩, ⟨2, []⟩, ⟨7, []⟩, ⟨8, []⟩, ⟨10, []⟩] := by kernel_rfl
theorem res86 : Try.f86.results.toList = [.tmp 4] := by kernel_rfl
theorem ext86 : E.ext 86 = none := by kernel_rfl
theorem res87 : Try.f87.results.toList = [.tmp 8] := by kernel_rfl
theorem ext87 : E.ext 87 = none := by kernel_rfl
theorem lv87_3 : E.lv 87 3 = [⟨0, []⟩, ⟨1, []⟩, ⟨9, []⟩, ⟨10, []⟩] := by kernel_rfl
theorem lv87_5 : E.lv 87 5 = [⟨0, []⟩, ⟨1, []⟩, ⟨9, []⟩, ⟨10, []⟩] := by kernel_rfl
theorem res88 : Try.f88.results.toList = [.tmp 8, .tmp 9] := by kernel_rfl
theorem ext88 : E.ext 88 = none := by kernel_rfl
theorem lv88_3 : E.lv 88 3 = [⟨0, []⟩, ⟨1, []⟩, ⟨10, []⟩, ⟨11, []⟩] := by kernel_rfl
theorem lv88_5 : E.lv 88 5 = [⟨0, []⟩, ⟨1, []⟩, ⟨10, []⟩, ⟨11, []⟩] := by kernel_rfl
theorem lv88_13 : E.lv 88 13 = [⟨0, []⟩, ⟨1, []⟩, ⟨10, []⟩, ⟨11, []⟩] := by kernel_rfl
theorem lv88_15 : E.lv 88 15 = [⟨0, []⟩, ⟨1, []⟩, ⟨10, []⟩, ⟨11, []⟩] := by kernel_rfl
theorem res89 : Try.f89.results.toList = [.tmp 2] := by kernel_rfl
theorem ext89 : E.ext 89 = none := by kernel_rfl
theorem res90 : Try.f90.results.toList = [.tmp 2] := by kernel_rfl
theorem ext90 : E.ext 90 = none := by kernel_rfl
theorem res91 : Try.f91.results.toList = [.tmp 2] := by kernel_rfl
theorem ext91 : E.ext 91 = some .clip := by kernel_rfl
theorem res92 : Try.f92.results.toList = [.tmp 2] := by kernel_rfl
theorem ext92 : E.ext 92 = none := by kernel_rfl
theorem lv92_3 : E.lv 92 3 = [⟨0, []⟩, ⟨3, []⟩, ⟨9, []⟩, ⟨10, []⟩, ⟨11, []⟩] := by kernel_rfl
theorem lv92_11 : E.lv 92 11 = [⟨6, [(0, 30, 8)]⟩, ⟨25, []⟩, ⟨26, []⟩, ⟨27, []⟩] := by kernel_rfl
theorem res93 : Try.f93.results.toList = [.tmp 2] := by kernel_rfl
theorem ext93 : E.ext 93 = none := by kernel_rfl
theorem lv93_3 : E.lv 93 3 = [⟨0, []⟩, ⟨3, []⟩, ⟨9, []⟩, ⟨10, []⟩, ⟨11, []⟩] := by kernel_rfl
theorem lv93_11 : E.lv 93 11 = [⟨6, [(0, 28, 1)]⟩, ⟨25, []⟩, ⟨26, []⟩, ⟨27, []⟩] := by kernel_rfl
theorem res94 : Try.f94.results.toList = [] := by kernel_rfl
theorem ext94 : E.ext 94 = none := by kernel_rfl
theorem lv94_1 : E.lv 94 1 = [⟨0, []⟩, ⟨2, []⟩, ⟨3, []⟩, ⟨8, []⟩] := by kernel_rfl
theorem res95 : Try.f95.results.toList = [.tmp 2] := by kernel_rfl
theorem ext95 : E.ext 95 = none := by kernel_rfl
theorem res96 : Try.f96.results.toList = [.tmp 2] := by kernel_rfl
theorem ext96 : E.ext 96 = none := by kernel_rfl
theorem res97 : Try.f97.results.toList = [.tmp 6] := by kernel_rfl
theorem ext97 : E.ext 97 = none := by kernel_rfl
theorem res98 : Try.f98.results.toList = [.tmp 10] := by kernel_rfl
theorem ext98 : E.ext 98 = none := by kernel_rfl
theorem res99 : Try.f99.results.toList = [.tmp 4] := by kernel_rfl
theorem ext99 : E.ext 99 = some (.fn (growF 30 8 96)) := by kernel_rfl
theorem res100 : Try.f100.results.toList = [.tmp 4] := by kernel_rfl
theorem ext100 : E.ext 100 = some (.fn (growF 28 1 24)) := by kernel_rfl
theorem res101 : Try.f101.results.toList = [.tmp 8, .tmp 9] := by kernel_rfl
theorem ext101 : E.ext 101 = none := by kernel_rfl
attribute [go_sem] siz1 byt1 agg1 zer1 und2 siz2 byt2 agg2 zer2 und3 siz3 byt3 agg3 zer3 und4 siz4 byt4 agg4 zer4 und5 siz5 byt5 agg5 zer5 und6 siz6 byt6 agg6 zer6 siz8 byt8 agg8 zer8 fie8_0 fie8_1 fie8_2 fie8_3 pla8 und9 siz9
attribute [go_sem] byt9 agg9 zer9 und12 siz12 byt12 agg12 zer12 siz13 byt13 agg13 zer13 fie13_0 fie13_1 pla13 und17 siz17 byt17 agg17 zer17 siz19 byt19 agg19 zer19 fie19_0 pla19 und22 siz22 byt22 agg22 zer22 siz24 byt24 agg24 zer24 fie24_0 fie24_1 fie24_2 fie24_3 pla24
attribute [go_sem] siz26 byt26 agg26 zer26 fie26_0 fie26_1 fie26_2 pla26 und27 siz27 byt27 agg27 zer27 und28 siz28 byt28 agg28 zer28 siz30 byt30 agg30 zer30 fie30_0 fie30_1 fie30_2 fie30_3 fie30_4 pla30 siz31 byt31 agg31 zer31 fie31_0 fie31_1 fie31_2 pla31 und32 siz32 byt32 agg32
attribute [go_sem] zer32 und36 siz36 byt36 agg36 zer36 und37 siz37 byt37 agg37 zer37 siz39 byt39 agg39 zer39 fie39_0 pla39 und41 siz41 byt41 agg41 zer41 und45 siz45 byt45 agg45 zer45 und47 siz47 byt47 agg47 zer47 siz49 byt49 agg49 zer49 fie49_0 fie49_1 fie49_2 pla49
attribute [go_sem] siz55 byt55 agg55 zer55 fie55_0 fie55_1 fie55_2 fie55_3 pla55 und56 siz56 byt56 agg56 zer56 siz58 byt58 agg58 zer58 fie58_0 fie58_1 pla58 siz60 byt60 agg60 zer60 fie60_0 fie60_1 fie60_2 fie60_3 fie60_4 pla60 und61 siz61 byt61 agg61 zer61 siz65 byt65 agg65 zer65
attribute [go_sem] fie65_0 fie65_1 pla65 und70 siz70 byt70 agg70 zer70 siz78 byt78 agg78 zer78 und80 siz80 byt80 agg80 zer80 siz91 byt91 agg91 zer91 und92 siz92 byt92 agg92 zer92 siz94 byt94 agg94 zer94 fie94_0 fie94_1 pla94 und120 siz120 byt120 agg120 zer120 und127 siz127
attribute [go_sem] byt127 agg127 zer127 und129 siz129 byt129 agg129 zer129 und132 siz132 byt132 agg132 zer132 und136 siz136 byt136 agg136 zer136 und139 siz139 byt139 agg139 zer139 und151 siz151 byt151 agg151 zer151 und152 siz152 byt152 agg152 zer152 siz153 byt153 agg153 zer153 und154 siz154 byt154
attribute [go_sem] agg154 zer154 und155 siz155 byt155 agg155 zer155 und156 siz156 byt156 agg156 zer156 siz158 byt158 agg158 zer158 fie158_0 fie158_1 fie158_2 fie158_3 fie158_4 fie158_5 fie158_6 fie158_7 fie158_8 fie158_9 fie158_10 pla158 res3 ext3 res4 ext4 lv4_8 lv4_13 lv4_19 res5 ext5 lv5_7 res6 ext6
attribute [go_sem] lv6_9 res7 ext7 res8 ext8 res9 ext9 res10 ext10 lv10_4 lv10_8 res11 ext11 lv11_7 lv11_10 res12 ext12 res13 ext13 res14 ext14 lv14_4 res15 ext15 lv15_3 res16 ext16 lv16_3 lv16_8 res17 ext17 res18 ext18 res19 ext19 lv19_17 res20 ext20 lv20_21 res21
attribute [go_sem] ext21 res22 ext22 res23 ext23 res24 ext24 res25 ext25 lv25_3 res26 ext26 res27 ext27 res28 ext28 lv28_4 res29 ext29 res30 ext30 res31 ext31 res32 ext32 lv32_6 res33 ext33 res34 ext34 res35 ext35 res36 ext36 res37 ext37 res38 ext38 lv38_3 res39
attribute [go_sem] ext39 res40 ext40 res41 ext41 res42 ext42 res43 ext43 res44 ext44 res45 ext45 res46 ext46 res47 ext47 lv47_2 res48 ext48 res49 ext49 res50 ext50 res51 ext51 res52 ext52 lv52_2 res53 ext53 res54 ext54 res55 ext55 res56 ext56 res57 ext57 res58
attribute [go_sem] ext58 lv58_4 lv58_9 res59 ext59 res60 ext60 res61 ext61 res62 ext62 res63 ext63 res64 ext64 lv64_5 res65 ext65 res66 ext66 res67 ext67 res68 ext68 res69 ext69 res70 ext70 res71 ext71 res72 ext72 lv72_2 res73 ext73 res74 ext74 lv74_4 res75 ext75
attribute [go_sem] lv75_5 lv75_8 res76 ext76 res77 ext77 res78 ext78 res80 ext80 lv80_1 lv80_4 res81 ext81 lv81_4 lv81_8 res82 ext82 lv82_5 res83 ext83 res84 ext84 lv84_2 res85 ext85 lv85_3 lv85_5 lv85_14 lv85_20 res86 ext86 res87 ext87 lv87_3 lv87_5 res88 ext88 lv88_3 lv88_5
attribute [go_sem] lv88_13 lv88_15 res89 ext89 res90 ext90 res91 ext91 res92 ext92 lv92_3 lv92_11 res93 ext93 lv93_3 lv93_11 res94 ext94 lv94_1 res95 ext95 res96 ext96 res97 ext97 res98 ext98 res99 ext99 res100 ext100 res101 ext101
end Go.Proofs.Ytgocfiehbgoacaa.D
