/- What the evaluator asks of the seat's types and functions: rows for simp. -/
import Derived.Test.YtepofpmohiegpaaDenT1
import Derived.Test.YtepofpmohiegpaaDenK3
namespace Go.Proofs.Ytepofpmohiegpaa.D
open Go Go.Den Go.Proofs
theorem siz1 : tSize E.P 1 = some 1 := by kernel_rfl
theorem byt1 : tBytes E.P 1 = some 8 := by kernel_rfl
theorem agg1 : tAgg E.P 1 = some false := by kernel_rfl
theorem zer1 : tZero E.P 1 = some [.nilf] := by kernel_rfl
theorem und2 : E.P.underlying 2 = some (.int .i64) := by kernel_rfl
theorem siz2 : tSize E.P 2 = some 1 := by kernel_rfl
theorem byt2 : tBytes E.P 2 = some 8 := by kernel_rfl
theorem agg2 : tAgg E.P 2 = some false := by kernel_rfl
theorem zer2 : tZero E.P 2 = some [.int .i64 (0)] := by kernel_rfl
theorem und3 : E.P.underlying 3 = some (.int .i64) := by kernel_rfl
theorem siz3 : tSize E.P 3 = some 1 := by kernel_rfl
theorem byt3 : tBytes E.P 3 = some 8 := by kernel_rfl
theorem agg3 : tAgg E.P 3 = some false := by kernel_rfl
theorem zer3 : tZero E.P 3 = some [.int .i64 (0)] := by kernel_rfl
theorem und4 : E.P.underlying 4 = some (.bool) := by kernel_rfl
theorem siz4 : tSize E.P 4 = some 1 := by kernel_rfl
theorem byt4 : tBytes E.P 4 = some 1 := by kernel_rfl
theorem agg4 : tAgg E.P 4 = some false := by kernel_rfl
theorem zer4 : tZero E.P 4 = some [.bool false] := by kernel_rfl
theorem und5 : E.P.underlying 5 = some (.int .u8) := by kernel_rfl
theorem siz5 : tSize E.P 5 = some 1 := by kernel_rfl
theorem byt5 : tBytes E.P 5 = some 1 := by kernel_rfl
theorem agg5 : tAgg E.P 5 = some false := by kernel_rfl
theorem zer5 : tZero E.P 5 = some [.int .u8 (0)] := by kernel_rfl
theorem und6 : E.P.underlying 6 = some (.int .u8) := by kernel_rfl
theorem siz6 : tSize E.P 6 = some 1 := by kernel_rfl
theorem byt6 : tBytes E.P 6 = some 1 := by kernel_rfl
theorem agg6 : tAgg E.P 6 = some false := by kernel_rfl
theorem zer6 : tZero E.P 6 = some [.int .u8 (0)] := by kernel_rfl
theorem siz7 : tSize E.P 7 = some 4 := by kernel_rfl
theorem byt7 : tBytes E.P 7 = some 24 := by kernel_rfl
theorem agg7 : tAgg E.P 7 = some true := by kernel_rfl
theorem zer7 : tZero E.P 7 = some [.int .i64 (0), .int .i64 (0), .bool false, .int .u8 (0)] := by kernel_rfl
theorem fie7_0 : tField E.P 7 0 = some (0, 2) := by kernel_rfl
theorem fie7_1 : tField E.P 7 1 = some (1, 3) := by kernel_rfl
theorem fie7_2 : tField E.P 7 2 = some (2, 4) := by kernel_rfl
theorem fie7_3 : tField E.P 7 3 = some (3, 6) := by kernel_rfl
theorem pla7 : tPlaces E.P 7 = some [(0, 1), (1, 1), (2, 1), (3, 1)] := by kernel_rfl
theorem siz8 : tSize E.P 8 = some 4 := by kernel_rfl
theorem byt8 : tBytes E.P 8 = some 24 := by kernel_rfl
theorem agg8 : tAgg E.P 8 = some true := by kernel_rfl
theorem zer8 : tZero E.P 8 = some [.int .i64 (0), .int .i64 (0), .bool false, .int .u8 (0)] := by kernel_rfl
theorem fie8_0 : tField E.P 8 0 = some (0, 2) := by kernel_rfl
theorem fie8_1 : tField E.P 8 1 = some (1, 3) := by kernel_rfl
theorem fie8_2 : tField E.P 8 2 = some (2, 4) := by kernel_rfl
theorem fie8_3 : tField E.P 8 3 = some (3, 6) := by kernel_rfl
theorem pla8 : tPlaces E.P 8 = some [(0, 1), (1, 1), (2, 1), (3, 1)] := by kernel_rfl
theorem und9 : E.P.underlying 9 = some (.string) := by kernel_rfl
theorem siz9 : tSize E.P 9 = some 1 := by kernel_rfl
theorem byt9 : tBytes E.P 9 = some 16 := by kernel_rfl
theorem agg9 : tAgg E.P 9 = some false := by kernel_rfl
theorem zer9 : tZero E.P 9 = some [.str []] := by kernel_rfl
theorem und12 : E.P.underlying 12 = some (.int .u64) := by kernel_rfl
theorem siz12 : tSize E.P 12 = some 1 := by kernel_rfl
theorem byt12 : tBytes E.P 12 = some 8 := by kernel_rfl
theorem agg12 : tAgg E.P 12 = some false := by kernel_rfl
theorem zer12 : tZero E.P 12 = some [.int .u64 (0)] := by kernel_rfl
theorem siz14 : tSize E.P 14 = some 2 := by kernel_rfl
theorem byt14 : tBytes E.P 14 = some 24 := by kernel_rfl
theorem agg14 : tAgg E.P 14 = some true := by kernel_rfl
theorem zer14 : tZero E.P 14 = some [.str [], .int .u64 (0)] := by kernel_rfl
theorem fie14_0 : tField E.P 14 0 = some (0, 9) := by kernel_rfl
theorem fie14_1 : tField E.P 14 1 = some (1, 12) := by kernel_rfl
theorem pla14 : tPlaces E.P 14 = some [(0, 1), (1, 1)] := by kernel_rfl
theorem und15 : E.P.underlying 15 = some (.pointer 103) := by kernel_rfl
theorem siz15 : tSize E.P 15 = some 1 := by kernel_rfl
theorem byt15 : tBytes E.P 15 = some 8 := by kernel_rfl
theorem agg15 : tAgg E.P 15 = some false := by kernel_rfl
theorem zer15 : tZero E.P 15 = some [.nilp] := by kernel_rfl
theorem und17 : E.P.underlying 17 = some (.pointer 116) := by kernel_rfl
theorem siz17 : tSize E.P 17 = some 1 := by kernel_rfl
theorem byt17 : tBytes E.P 17 = some 8 := by kernel_rfl
theorem agg17 : tAgg E.P 17 = some false := by kernel_rfl
theorem zer17 : tZero E.P 17 = some [.nilp] := by kernel_rfl
theorem siz23 : tSize E.P 23 = some 3 := by kernel_rfl
theorem byt23 : tBytes E.P 23 = some 32 := by kernel_rfl
theorem agg23 : tAgg E.P 23 = some true := by kernel_rfl
theorem zer23 : tZero E.P 23 = some [.str [], .int .i64 (0), .bool false] := by kernel_rfl
theorem fie23_0 : tField E.P 23 0 = some (0, 9) := by kernel_rfl
theorem fie23_1 : tField E.P 23 1 = some (1, 3) := by kernel_rfl
theorem fie23_2 : tField E.P 23 2 = some (2, 4) := by kernel_rfl
theorem pla23 : tPlaces E.P 23 = some [(0, 1), (1, 1), (2, 1)] := by kernel_rfl
theorem und24 : E.P.underlying 24 = some (.slice 23) := by kernel_rfl
theorem siz24 : tSize E.P 24 = some 1 := by kernel_rfl
theorem byt24 : tBytes E.P 24 = some 24 := by kernel_rfl
theorem agg24 : tAgg E.P 24 = some false := by kernel_rfl
theorem zer24 : tZero E.P 24 = some [.nils] := by kernel_rfl
theorem siz25 : tSize E.P 25 = some 2 := by kernel_rfl
theorem byt25 : tBytes E.P 25 = some 32 := by kernel_rfl
theorem agg25 : tAgg E.P 25 = some true := by kernel_rfl
theorem zer25 : tZero E.P 25 = some [.nils, .bool false] := by kernel_rfl
theorem fie25_0 : tField E.P 25 0 = some (0, 24) := by kernel_rfl
theorem fie25_1 : tField E.P 25 1 = some (1, 4) := by kernel_rfl
theorem pla25 : tPlaces E.P 25 = some [(0, 1), (1, 1)] := by kernel_rfl
theorem und26 : E.P.underlying 26 = some (.slice 25) := by kernel_rfl
theorem siz26 : tSize E.P 26 = some 1 := by kernel_rfl
theorem byt26 : tBytes E.P 26 = some 24 := by kernel_rfl
theorem agg26 : tAgg E.P 26 = some false := by kernel_rfl
theorem zer26 : tZero E.P 26 = some [.nils] := by kernel_rfl
theorem siz29 : tSize E.P 29 = some 1 := by kernel_rfl
theorem byt29 : tBytes E.P 29 = some 24 := by kernel_rfl
theorem agg29 : tAgg E.P 29 = some true := by kernel_rfl
theorem zer29 : tZero E.P 29 = some [.nils] := by kernel_rfl
theorem fie29_0 : tField E.P 29 0 = some (0, 24) := by kernel_rfl
theorem pla29 : tPlaces E.P 29 = some [(0, 1)] := by kernel_rfl
theorem und33 : E.P.underlying 33 = some (.slice 38) := by kernel_rfl
theorem siz33 : tSize E.P 33 = some 1 := by kernel_rfl
theorem byt33 : tBytes E.P 33 = some 24 := by kernel_rfl
theorem agg33 : tAgg E.P 33 = some false := by kernel_rfl
theorem zer33 : tZero E.P 33 = some [.nils] := by kernel_rfl
theorem und36 : E.P.underlying 36 = some (.slice 5) := by kernel_rfl
theorem siz36 : tSize E.P 36 = some 1 := by kernel_rfl
theorem byt36 : tBytes E.P 36 = some 24 := by kernel_rfl
theorem agg36 : tAgg E.P 36 = some false := by kernel_rfl
theorem zer36 : tZero E.P 36 = some [.nils] := by kernel_rfl
theorem siz38 : tSize E.P 38 = some 4 := by kernel_rfl
theorem byt38 : tBytes E.P 38 = some 48 := by kernel_rfl
theorem agg38 : tAgg E.P 38 = some true := by kernel_rfl
theorem zer38 : tZero E.P 38 = some [.bool false, .int .i64 (0), .int .i64 (0), .nils] := by kernel_rfl
theorem fie38_0 : tField E.P 38 0 = some (0, 4) := by kernel_rfl
theorem fie38_1 : tField E.P 38 1 = some (1, 3) := by kernel_rfl
theorem fie38_2 : tField E.P 38 2 = some (2, 2) := by kernel_rfl
theorem fie38_3 : tField E.P 38 3 = some (3, 36) := by kernel_rfl
theorem pla38 : tPlaces E.P 38 = some [(0, 1), (1, 1), (2, 1), (3, 1)] := by kernel_rfl
theorem siz41 : tSize E.P 41 = some 1 := by kernel_rfl
theorem byt41 : tBytes E.P 41 = some 8 := by kernel_rfl
theorem agg41 : tAgg E.P 41 = some false := by kernel_rfl
theorem zer41 : tZero E.P 41 = some [.nilf] := by kernel_rfl
theorem siz42 : tSize E.P 42 = some 1 := by kernel_rfl
theorem byt42 : tBytes E.P 42 = some 8 := by kernel_rfl
theorem agg42 : tAgg E.P 42 = some false := by kernel_rfl
theorem zer42 : tZero E.P 42 = some [.nilf] := by kernel_rfl
theorem siz43 : tSize E.P 43 = some 1 := by kernel_rfl
theorem byt43 : tBytes E.P 43 = some 8 := by kernel_rfl
theorem agg43 : tAgg E.P 43 = some false := by kernel_rfl
theorem zer43 : tZero E.P 43 = some [.nilf] := by kernel_rfl
theorem siz44 : tSize E.P 44 = some 5 := by kernel_rfl
theorem byt44 : tBytes E.P 44 = some 48 := by kernel_rfl
theorem agg44 : tAgg E.P 44 = some true := by kernel_rfl
theorem zer44 : tZero E.P 44 = some [.str [], .int .i64 (0), .int .i64 (0), .int .i64 (0), .bool false] := by kernel_rfl
theorem fie44_0 : tField E.P 44 0 = some (0, 9) := by kernel_rfl
theorem fie44_1 : tField E.P 44 1 = some (1, 3) := by kernel_rfl
theorem fie44_2 : tField E.P 44 2 = some (2, 3) := by kernel_rfl
theorem fie44_3 : tField E.P 44 3 = some (3, 3) := by kernel_rfl
theorem fie44_4 : tField E.P 44 4 = some (4, 4) := by kernel_rfl
theorem pla44 : tPlaces E.P 44 = some [(0, 1), (1, 1), (2, 1), (3, 1), (4, 1)] := by kernel_rfl
theorem und45 : E.P.underlying 45 = some (.slice 44) := by kernel_rfl
theorem siz45 : tSize E.P 45 = some 1 := by kernel_rfl
theorem byt45 : tBytes E.P 45 = some 24 := by kernel_rfl
theorem agg45 : tAgg E.P 45 = some false := by kernel_rfl
theorem zer45 : tZero E.P 45 = some [.nils] := by kernel_rfl
theorem und46 : E.P.underlying 46 = some (.slice 4) := by kernel_rfl
theorem siz46 : tSize E.P 46 = some 1 := by kernel_rfl
theorem byt46 : tBytes E.P 46 = some 24 := by kernel_rfl
theorem agg46 : tAgg E.P 46 = some false := by kernel_rfl
theorem zer46 : tZero E.P 46 = some [.nils] := by kernel_rfl
theorem und50 : E.P.underlying 50 = some (.slice 3) := by kernel_rfl
theorem siz50 : tSize E.P 50 = some 1 := by kernel_rfl
theorem byt50 : tBytes E.P 50 = some 24 := by kernel_rfl
theorem agg50 : tAgg E.P 50 = some false := by kernel_rfl
theorem zer50 : tZero E.P 50 = some [.nils] := by kernel_rfl
theorem und55 : E.P.underlying 55 = some (.slice 36) := by kernel_rfl
theorem siz55 : tSize E.P 55 = some 1 := by kernel_rfl
theorem byt55 : tBytes E.P 55 = some 24 := by kernel_rfl
theorem agg55 : tAgg E.P 55 = some false := by kernel_rfl
theorem zer55 : tZero E.P 55 = some [.nils] := by kernel_rfl
theorem siz57 : tSize E.P 57 = some 1 := by kernel_rfl
theorem byt57 : tBytes E.P 57 = some 8 := by kernel_rfl
theorem agg57 : tAgg E.P 57 = some false := by kernel_rfl
theorem zer57 : tZero E.P 57 = some [.nilf] := by kernel_rfl
theorem und61 : E.P.underlying 61 = some (.slice 33) := by kernel_rfl
theorem siz61 : tSize E.P 61 = some 1 := by kernel_rfl
theorem byt61 : tBytes E.P 61 = some 24 := by kernel_rfl
theorem agg61 : tAgg E.P 61 = some false := by kernel_rfl
theorem zer61 : tZero E.P 61 = some [.nils] := by kernel_rfl
theorem und62 : E.P.underlying 62 = some (.slice 9) := by kernel_rfl
theorem siz62 : tSize E.P 62 = some 1 := by kernel_rfl
theorem byt62 : tBytes E.P 62 = some 24 := by kernel_rfl
theorem agg62 : tAgg E.P 62 = some false := by kernel_rfl
theorem zer62 : tZero E.P 62 = some [.nils] := by kernel_rfl
theorem und63 : E.P.underlying 63 = some (.int .u64) := by kernel_rfl
theorem siz63 : tSize E.P 63 = some 1 := by kernel_rfl
theorem byt63 : tBytes E.P 63 = some 8 := by kernel_rfl
theorem agg63 : tAgg E.P 63 = some false := by kernel_rfl
theorem zer63 : tZero E.P 63 = some [.int .u64 (0)] := by kernel_rfl
theorem und71 : E.P.underlying 71 = some (.pointer 95) := by kernel_rfl
theorem siz71 : tSize E.P 71 = some 1 := by kernel_rfl
theorem byt71 : tBytes E.P 71 = some 8 := by kernel_rfl
theorem agg71 : tAgg E.P 71 = some false := by kernel_rfl
theorem zer71 : tZero E.P 71 = some [.nilp] := by kernel_rfl
theorem und73 : E.P.underlying 73 = some (.int .u64) := by kernel_rfl
theorem siz73 : tSize E.P 73 = some 1 := by kernel_rfl
theorem byt73 : tBytes E.P 73 = some 8 := by kernel_rfl
theorem agg73 : tAgg E.P 73 = some false := by kernel_rfl
theorem zer73 : tZero E.P 73 = some [.int .u64 (0)] := by kernel_rfl
theorem und82 : E.P.underlying 82 = some (.slice 73) := by kernel_rfl
theorem siz82 : tSize E.P 82 = some 1 := by kernel_rfl
theorem byt82 : tBytes E.P 82 = some 24 := by kernel_rfl
theorem agg82 : tAgg E.P 82 = some false := by kernel_rfl
theorem zer82 : tZero E.P 82 = some [.nils] := by kernel_rfl
theorem und86 : E.P.underlying 86 = some (.pointer 88) := by kernel_rfl
theorem siz86 : tSize E.P 86 = some 1 := by kernel_rfl
theorem byt86 : tBytes E.P 86 = some 8 := by kernel_rfl
theorem agg86 : tAgg E.P 86 = some false := by kernel_rfl
theorem zer86 : tZero E.P 86 = some [.nilp] := by kernel_rfl
theorem siz88 : tSize E.P 88 = some 2 := by kernel_rfl
theorem byt88 : tBytes E.P 88 = some 32 := by kernel_rfl
theorem agg88 : tAgg E.P 88 = some true := by kernel_rfl
theorem zer88 : tZero E.P 88 = some [.nils, .bool false] := by kernel_rfl
theorem fie88_0 : tField E.P 88 0 = some (0, 36) := by kernel_rfl
theorem fie88_1 : tField E.P 88 1 = some (1, 4) := by kernel_rfl
theorem pla88 : tPlaces E.P 88 = some [(0, 1), (1, 1)] := by kernel_rfl
theorem siz95 : tSize E.P 95 = some 2 := by kernel_rfl
theorem byt95 : tBytes E.P 95 = some 32 := by kernel_rfl
theorem agg95 : tAgg E.P 95 = some true := by kernel_rfl
theorem zer95 : tZero E.P 95 = some [.nils, .bool false] := by kernel_rfl
theorem fie95_0 : tField E.P 95 0 = some (0, 36) := by kernel_rfl
theorem fie95_1 : tField E.P 95 1 = some (1, 4) := by kernel_rfl
theorem pla95 : tPlaces E.P 95 = some [(0, 1), (1, 1)] := by kernel_rfl
theorem siz103 : tSize E.P 103 = some 4 := by kernel_rfl
theorem byt103 : tBytes E.P 103 = some 40 := by kernel_rfl
theorem agg103 : tAgg E.P 103 = some true := by kernel_rfl
theorem zer103 : tZero E.P 103 = some [.nilp, .nilp, .nilp, .str []] := by kernel_rfl
theorem fie103_0 : tField E.P 103 0 = some (0, 17) := by kernel_rfl
theorem fie103_1 : tField E.P 103 1 = some (1, 17) := by kernel_rfl
theorem fie103_2 : tField E.P 103 2 = some (2, 17) := by kernel_rfl
theorem fie103_3 : tField E.P 103 3 = some (3, 9) := by kernel_rfl
theorem pla103 : tPlaces E.P 103 = some [(0, 1), (1, 1), (2, 1), (3, 1)] := by kernel_rfl
theorem und108 : E.P.underlying 108 = some (.int .u32) := by kernel_rfl
theorem siz108 : tSize E.P 108 = some 1 := by kernel_rfl
theorem byt108 : tBytes E.P 108 = some 4 := by kernel_rfl
theorem agg108 : tAgg E.P 108 = some false := by kernel_rfl
theorem zer108 : tZero E.P 108 = some [.int .u32 (0)] := by kernel_rfl
theorem und109 : E.P.underlying 109 = some (.int .u8) := by kernel_rfl
theorem siz109 : tSize E.P 109 = some 1 := by kernel_rfl
theorem byt109 : tBytes E.P 109 = some 1 := by kernel_rfl
theorem agg109 : tAgg E.P 109 = some false := by kernel_rfl
theorem zer109 : tZero E.P 109 = some [.int .u8 (0)] := by kernel_rfl
theorem und110 : E.P.underlying 110 = some (.int .u8) := by kernel_rfl
theorem siz110 : tSize E.P 110 = some 1 := by kernel_rfl
theorem byt110 : tBytes E.P 110 = some 1 := by kernel_rfl
theorem agg110 : tAgg E.P 110 = some false := by kernel_rfl
theorem zer110 : tZero E.P 110 = some [.int .u8 (0)] := by kernel_rfl
theorem siz111 : tSize E.P 111 = some 1 := by kernel_rfl
theorem byt111 : tBytes E.P 111 = some 8 := by kernel_rfl
theorem agg111 : tAgg E.P 111 = some false := by kernel_rfl
theorem zer111 : tZero E.P 111 = some [.nilf] := by kernel_rfl
theorem und112 : E.P.underlying 112 = some (.pointer 5) := by kernel_rfl
theorem siz112 : tSize E.P 112 = some 1 := by kernel_rfl
theorem byt112 : tBytes E.P 112 = some 8 := by kernel_rfl
theorem agg112 : tAgg E.P 112 = some false := by kernel_rfl
theorem zer112 : tZero E.P 112 = some [.nilp] := by kernel_rfl
theorem und113 : E.P.underlying 113 = some (.int .i32) := by kernel_rfl
theorem siz113 : tSize E.P 113 = some 1 := by kernel_rfl
theorem byt113 : tBytes E.P 113 = some 4 := by kernel_rfl
theorem agg113 : tAgg E.P 113 = some false := by kernel_rfl
theorem zer113 : tZero E.P 113 = some [.int .i32 (0)] := by kernel_rfl
theorem und114 : E.P.underlying 114 = some (.int .i32) := by kernel_rfl
theorem siz114 : tSize E.P 114 = some 1 := by kernel_rfl
theorem byt114 : tBytes E.P 114 = some 4 := by kernel_rfl
theorem agg114 : tAgg E.P 114 = some false := by kernel_rfl
theorem zer114 : tZero E.P 114 = some [.int .i32 (0)] := by kernel_rfl
theorem siz116 : tSize E.P 116 = some 11 := by kernel_rfl
theorem byt116 : tBytes E.P 116 = some 48 := by kernel_rfl
theorem agg116 : tAgg E.P 116 = some true := by kernel_rfl
theorem zer116 : tZero E.P 116 = some [.int .u64 (0), .int .u64 (0), .int .u32 (0), .int .u8 (0), .int .u8 (0), .int .u8 (0), .int .u8 (0), .nilf, .nilp, .int .i32 (0), .int .i32 (0)] := by kernel_rfl
theorem fie116_0 : tField E.P 116 0 = some (0, 12) := by kernel_rfl
theorem fie116_1 : tField E.P 116 1 = some (1, 12) := by kernel_rfl
theorem fie116_2 : tField E.P 116 2 = some (2, 108) := by kernel_rfl
theorem fie116_3 : tField E.P 116 3 = some (3, 109) := by kernel_rfl
theorem fie116_4 : tField E.P 116 4 = some (4, 5) := by kernel_rfl
theorem fie116_5 : tField E.P 116 5 = some (5, 5) := by kernel_rfl
theorem fie116_6 : tField E.P 116 6 = some (6, 110) := by kernel_rfl
theorem fie116_7 : tField E.P 116 7 = some (7, 111) := by kernel_rfl
theorem fie116_8 : tField E.P 116 8 = some (8, 112) := by kernel_rfl
theorem fie116_9 : tField E.P 116 9 = some (9, 113) := by kernel_rfl
theorem fie116_10 : tField E.P 116 10 = some (10, 114) := by kernel_rfl
theorem pla116 : tPlaces E.P 116 = some [(0, 1), (1, 1), (2, 1), (3, 1), (4, 1), (5, 1), (6, 1), (7, 1), (8, 1), (9, 1), (10, 1)] := by kernel_rfl
theorem res3 : Try.f3.results.toList = [.tmp 2] := by kernel_rfl
theorem ext3 : E.ext 3 = none := by kernel_rfl
theorem res4 : Try.f4.results.toList = [.tmp 8] := by kernel_rfl
theorem ext4 : E.ext 4 = none := by kernel_rfl
theorem res5 : Try.f5.results.toList = [.tmp 8] := by kernel_rfl
theorem ext5 : E.ext 5 = none := by kernel_rfl
theorem lv5_7 : E.lv 5 7 = [⟨10, []⟩, ⟨11, []⟩, ⟨77, []⟩, ⟨78, []⟩] := by kernel_rfl
theorem res6 : Try.f6.results.toList = [.tmp 2] := by kernel_rfl
theorem ext6 : E.ext 6 = none := by kernel_rfl
theorem res7 : Try.f7.results.toList = [.tmp 6] := by kernel_rfl
theorem ext7 : E.ext 7 = none := by kernel_rfl
theorem lv7_9 : E.lv 7 9 = [⟨7, []⟩, ⟨8, []⟩, ⟨11, []⟩, ⟨48, []⟩, ⟨49, []⟩] := by kernel_rfl
theorem res8 : Try.f8.results.toList = [.tmp 10] := by kernel_rfl
theorem ext8 : E.ext 8 = none := by kernel_rfl
theorem lv8_11 : E.lv 8 11 = [⟨69, []⟩, ⟨70, []⟩, ⟨71, []⟩] := by kernel_rfl
theorem lv8_18 : E.lv 8 18 = [⟨17, []⟩, ⟨20, []⟩, ⟨69, []⟩, ⟨70, []⟩, ⟨71, []⟩, ⟨105, []⟩, ⟨106, []⟩] := by kernel_rfl
theorem res9 : Try.f9.results.toList = [.tmp 2] := by kernel_rfl
theorem ext9 : E.ext 9 = none := by kernel_rfl
theorem lv9_2 : E.lv 9 2 = [⟨1, []⟩, ⟨8, []⟩, ⟨9, []⟩, ⟨10, []⟩] := by kernel_rfl
theorem res10 : Try.f10.results.toList = [.tmp 0] := by kernel_rfl
theorem ext10 : E.ext 10 = none := by kernel_rfl
theorem res11 : Try.f11.results.toList = [.cell 2 29] := by kernel_rfl
theorem ext11 : E.ext 11 = none := by kernel_rfl
theorem lv11_4 : E.lv 11 4 = [⟨0, []⟩, ⟨2, []⟩, ⟨3, []⟩, ⟨4, []⟩, ⟨5, []⟩] := by kernel_rfl
theorem res12 : Try.f12.results.toList = [.tmp 4] := by kernel_rfl
theorem ext12 : E.ext 12 = none := by kernel_rfl
theorem lv12_3 : E.lv 12 3 = [⟨1, []⟩, ⟨5, [(0, 38, 4)]⟩, ⟨9, []⟩, ⟨10, []⟩, ⟨11, []⟩] := by kernel_rfl
theorem res13 : Try.f13.results.toList = [.tmp 4] := by kernel_rfl
theorem ext13 : E.ext 13 = none := by kernel_rfl
theorem lv13_4 : E.lv 13 4 = [⟨1, []⟩, ⟨14, []⟩, ⟨15, []⟩, ⟨16, []⟩] := by kernel_rfl
theorem res14 : Try.f14.results.toList = [.tmp 4] := by kernel_rfl
theorem ext14 : E.ext 14 = none := by kernel_rfl
theorem res15 : Try.f15.results.toList = [.tmp 4] := by kernel_rfl
theorem ext15 : E.ext 15 = none := by kernel_rfl
theorem lv15_4 : E.lv 15 4 = [⟨0, []⟩, ⟨1, []⟩, ⟨5, []⟩] := by kernel_rfl
theorem res16 : Try.f16.results.toList = [.tmp 4] := by kernel_rfl
theorem ext16 : E.ext 16 = none := by kernel_rfl
theorem res17 : Try.f17.results.toList = [.tmp 4] := by kernel_rfl
theorem ext17 : E.ext 17 = none := by kernel_rfl
theorem res18 : Try.f18.results.toList = [.tmp 2, .tmp 3, .tmp 4] := by kernel_rfl
theorem ext18 : E.ext 18 = none := by kernel_rfl
theorem lv18_12 : E.lv 18 12 = [⟨0, []⟩, ⟨8, []⟩, ⟨41, []⟩, ⟨42, []⟩] := by kernel_rfl
theorem res19 : Try.f19.results.toList = [.tmp 2] := by kernel_rfl
theorem ext19 : E.ext 19 = none := by kernel_rfl
theorem lv19_3 : E.lv 19 3 = [⟨3, []⟩, ⟨6, []⟩, ⟨7, []⟩, ⟨8, []⟩] := by kernel_rfl
theorem res20 : Try.f20.results.toList = [.tmp 0] := by kernel_rfl
theorem ext20 : E.ext 20 = none := by kernel_rfl
theorem res21 : Try.f21.results.toList = [.tmp 4] := by kernel_rfl
theorem ext21 : E.ext 21 = none := by kernel_rfl
theorem lv21_3 : E.lv 21 3 = [⟨0, []⟩, ⟨1, []⟩, ⟨5, [(0, 4, 1)]⟩, ⟨6, []⟩] := by kernel_rfl
theorem res22 : Try.f22.results.toList = [.tmp 2] := by kernel_rfl
theorem ext22 : E.ext 22 = none := by kernel_rfl
theorem lv22_9 : E.lv 22 9 = [⟨3, []⟩, ⟨4, [(0, 73, 1)]⟩, ⟨25, []⟩, ⟨26, []⟩, ⟨27, []⟩] := by kernel_rfl
theorem res23 : Try.f23.results.toList = [.tmp 2] := by kernel_rfl
theorem ext23 : E.ext 23 = none := by kernel_rfl
theorem lv23_9 : E.lv 23 9 = [⟨0, []⟩, ⟨3, []⟩, ⟨5, [(0, 73, 1)]⟩, ⟨6, []⟩] := by kernel_rfl
theorem res24 : Try.f24.results.toList = [.tmp 2] := by kernel_rfl
theorem ext24 : E.ext 24 = none := by kernel_rfl
theorem lv24_3 : E.lv 24 3 = [⟨0, []⟩, ⟨3, []⟩, ⟨4, []⟩] := by kernel_rfl
theorem res25 : Try.f25.results.toList = [.tmp 2, .tmp 3, .tmp 4] := by kernel_rfl
theorem ext25 : E.ext 25 = none := by kernel_rfl
theorem lv25_11 : E.lv 25 11 = [⟨0, []⟩, ⟨6, []⟩, ⟨7, []⟩, ⟨8, []⟩, ⟨9, []⟩, ⟨10, [(0, 4, 1)]⟩, ⟨11, []⟩] := by kernel_rfl
theorem res26 : Try.f26.results.toList = [.tmp 3] := by kernel_rfl
theorem ext26 : E.ext 26 = none := by kernel_rfl
theorem res27 : Try.f27.results.toList = [.tmp 2] := by kernel_rfl
theorem ext27 : E.ext 27 = none := by kernel_rfl
theorem lv27_2 : E.lv 27 2 = [⟨0, []⟩, ⟨5, []⟩, ⟨6, []⟩] := by kernel_rfl
theorem res28 : Try.f28.results.toList = [.tmp 4] := by kernel_rfl
theorem ext28 : E.ext 28 = none := by kernel_rfl
theorem res29 : Try.f29.results.toList = [.tmp 4] := by kernel_rfl
theorem ext29 : E.ext 29 = none := by kernel_rfl
theorem res30 : Try.f30.results.toList = [.cell 4 38] := by kernel_rfl
theorem ext30 : E.ext 30 = none := by kernel_rfl
theorem res31 : Try.f31.results.toList = [.tmp 4] := by kernel_rfl
theorem ext31 : E.ext 31 = none := by kernel_rfl
theorem res32 : Try.f32.results.toList = [.tmp 6] := by kernel_rfl
theorem ext32 : E.ext 32 = none := by kernel_rfl
theorem lv32_2 : E.lv 32 2 = [⟨0, []⟩, ⟨1, []⟩, ⟨2, []⟩, ⟨11, []⟩, ⟨12, []⟩, ⟨13, []⟩] := by kernel_rfl
theorem res33 : Try.f33.results.toList = [.tmp 4] := by kernel_rfl
theorem ext33 : E.ext 33 = none := by kernel_rfl
theorem res34 : Try.f34.results.toList = [.tmp 2] := by kernel_rfl
theorem ext34 : E.ext 34 = none := by kernel_rfl
theorem res35 : Try.f35.results.toList = [.tmp 4] := by kernel_rfl
theorem ext35 : E.ext 35 = none := by kernel_rfl
theorem res36 : Try.f36.results.toList = [.tmp 4] := by kernel_rfl
theorem ext36 : E.ext 36 = some (.fn compareF) := by kernel_rfl
theorem res37 : Try.f37.results.toList = [.tmp 2] := by kernel_rfl
theorem ext37 : E.ext 37 = none := by kernel_rfl
theorem res38 : Try.f38.results.toList = [.tmp 2] := by kernel_rfl
theorem ext38 : E.ext 38 = none := by kernel_rfl
theorem lv38_3 : E.lv 38 3 = [⟨0, []⟩, ⟨3, []⟩, ⟨9, []⟩, ⟨10, []⟩, ⟨11, []⟩] := by kernel_rfl
theorem res39 : Try.f39.results.toList = [.tmp 2] := by kernel_rfl
theorem ext39 : E.ext 39 = none := by kernel_rfl
theorem res40 : Try.f40.results.toList = [.tmp 2] := by kernel_rfl
theorem ext40 : E.ext 40 = none := by kernel_rfl
theorem res41 : Try.f41.results.toList = [.tmp 4, .tmp 5] := by kernel_rfl
theorem ext41 : E.ext 41 = none := by kernel_rfl
theorem lv41_7 : E.lv 41 7 = [⟨8, []⟩, ⟨9, [(0, 4, 1)]⟩, ⟨27, []⟩, ⟨28, []⟩, ⟨29, []⟩] := by kernel_rfl
theorem res42 : Try.f42.results.toList = [.tmp 4] := by kernel_rfl
theorem ext42 : E.ext 42 = none := by kernel_rfl
theorem res43 : Try.f43.results.toList = [.tmp 2] := by kernel_rfl
theorem ext43 : E.ext 43 = some .clip := by kernel_rfl
theorem res44 : Try.f44.results.toList = [.tmp 2] := by kernel_rfl
theorem ext44 : E.ext 44 = some (.fn (cloneF 5 1 1)) := by kernel_rfl
theorem res45 : Try.f45.results.toList = [.tmp 4] := by kernel_rfl
theorem ext45 : E.ext 45 = none := by kernel_rfl
theorem lv45_2 : E.lv 45 2 = [⟨1, []⟩, ⟨5, [(0, 5, 1)]⟩] := by kernel_rfl
theorem res46 : Try.f46.results.toList = [.tmp 2] := by kernel_rfl
theorem ext46 : E.ext 46 = none := by kernel_rfl
theorem res47 : Try.f47.results.toList = [.tmp 4] := by kernel_rfl
theorem ext47 : E.ext 47 = none := by kernel_rfl
theorem lv47_5 : E.lv 47 5 = [⟨0, []⟩, ⟨5, []⟩, ⟨6, []⟩, ⟨17, []⟩, ⟨18, []⟩, ⟨19, []⟩] := by kernel_rfl
theorem lv47_8 : E.lv 47 8 = [⟨0, []⟩, ⟨5, []⟩, ⟨6, []⟩, ⟨8, []⟩, ⟨9, []⟩, ⟨17, []⟩, ⟨18, []⟩, ⟨19, []⟩] := by kernel_rfl
theorem res48 : Try.f48.results.toList = [.tmp 4] := by kernel_rfl
theorem ext48 : E.ext 48 = none := by kernel_rfl
theorem lv48_2 : E.lv 48 2 = [⟨1, []⟩, ⟨5, [(0, 5, 1)]⟩] := by kernel_rfl
theorem res49 : Try.f49.results.toList = [.tmp 4] := by kernel_rfl
theorem ext49 : E.ext 49 = none := by kernel_rfl
theorem lv49_4 : E.lv 49 4 = [⟨0, []⟩, ⟨1, []⟩, ⟨5, [(0, 5, 1)]⟩, ⟨6, []⟩] := by kernel_rfl
theorem lv49_7 : E.lv 49 7 = [⟨0, []⟩, ⟨1, []⟩, ⟨5, [(0, 5, 1)]⟩, ⟨6, []⟩, ⟨7, []⟩] := by kernel_rfl
theorem lv49_12 : E.lv 49 12 = [⟨5, []⟩, ⟨8, []⟩, ⟨9, []⟩] := by kernel_rfl
theorem res50 : Try.f50.results.toList = [.tmp 2] := by kernel_rfl
theorem ext50 : E.ext 50 = none := by kernel_rfl
theorem lv50_3 : E.lv 50 3 = [⟨0, []⟩, ⟨3, []⟩, ⟨4, []⟩] := by kernel_rfl
theorem res51 : Try.f51.results.toList = [.tmp 4] := by kernel_rfl
theorem ext51 : E.ext 51 = none := by kernel_rfl
theorem lv51_2 : E.lv 51 2 = [⟨0, []⟩, ⟨1, []⟩, ⟨7, []⟩, ⟨8, []⟩] := by kernel_rfl
theorem res52 : Try.f52.results.toList = [.tmp 6] := by kernel_rfl
theorem ext52 : E.ext 52 = none := by kernel_rfl
theorem lv52_4 : E.lv 52 4 = [⟨1, []⟩, ⟨2, []⟩, ⟨15, []⟩, ⟨16, []⟩, ⟨17, []⟩] := by kernel_rfl
theorem res53 : Try.f53.results.toList = [.tmp 4] := by kernel_rfl
theorem ext53 : E.ext 53 = none := by kernel_rfl
theorem res54 : Try.f54.results.toList = [.tmp 6] := by kernel_rfl
theorem ext54 : E.ext 54 = none := by kernel_rfl
theorem lv54_4 : E.lv 54 4 = [⟨1, []⟩, ⟨2, []⟩, ⟨15, []⟩, ⟨16, []⟩, ⟨17, []⟩] := by kernel_rfl
theorem res55 : Try.f55.results.toList = [.tmp 4] := by kernel_rfl
theorem ext55 : E.ext 55 = none := by kernel_rfl
theorem res56 : Try.f56.results.toList = [.tmp 2] := by kernel_rfl
theorem ext56 : E.ext 56 = none := by kernel_rfl
theorem res57 : Try.f57.results.toList = [.tmp 2] := by kernel_rfl
theorem ext57 : E.ext 57 = none := by kernel_rfl
theorem res58 : Try.f58.results.toList = [.tmp 2] := by kernel_rfl
theorem ext58 : E.ext 58 = none := by kernel_rfl
theorem res60 : Try.f60.results.toList = [] := by kernel_rfl
theorem ext60 : E.ext 60 = none := by kernel_rfl
theorem res61 : Try.f61.results.toList = [.tmp 6, .tmp 7] := by kernel_rfl
theorem ext61 : E.ext 61 = none := by kernel_rfl
theorem lv61_6 : E.lv 61 6 = [⟨0, []⟩, ⟨1, []⟩, ⟨8, []⟩, ⟨29, []⟩, ⟨30, []⟩] := by kernel_rfl
theorem res62 : Try.f62.results.toList = [.tmp 2] := by kernel_rfl
theorem ext62 : E.ext 62 = some .clip := by kernel_rfl
theorem res63 : Try.f63.results.toList = [.tmp 2] := by kernel_rfl
theorem ext63 : E.ext 63 = none := by kernel_rfl
theorem res64 : Try.f64.results.toList = [.tmp 4] := by kernel_rfl
theorem ext64 : E.ext 64 = none := by kernel_rfl
theorem res65 : Try.f65.results.toList = [.tmp 6] := by kernel_rfl
theorem ext65 : E.ext 65 = none := by kernel_rfl
theorem lv65_3 : E.lv 65 3 = [⟨0, []⟩, ⟨1, []⟩, ⟨2, []⟩, ⟨7, []⟩, ⟨8, []⟩] := by kernel_rfl
theorem res66 : Try.f66.results.toList = [.tmp 2] := by kernel_rfl
theorem ext66 : E.ext 66 = some .clip := by kernel_rfl
attribute [go_sem] siz1 byt1 agg1 zer1 und2 siz2 byt2 agg2 zer2 und3 siz3 byt3 agg3 zer3 und4 siz4 byt4 agg4 zer4 und5 siz5 byt5 agg5 zer5 und6 siz6 byt6 agg6 zer6 siz7 byt7 agg7 zer7 fie7_0 fie7_1 fie7_2 fie7_3 pla7 siz8 byt8
attribute [go_sem] agg8 zer8 fie8_0 fie8_1 fie8_2 fie8_3 pla8 und9 siz9 byt9 agg9 zer9 und12 siz12 byt12 agg12 zer12 siz14 byt14 agg14 zer14 fie14_0 fie14_1 pla14 und15 siz15 byt15 agg15 zer15 und17 siz17 byt17 agg17 zer17 siz23 byt23 agg23 zer23 fie23_0 fie23_1
attribute [go_sem] fie23_2 pla23 und24 siz24 byt24 agg24 zer24 siz25 byt25 agg25 zer25 fie25_0 fie25_1 pla25 und26 siz26 byt26 agg26 zer26 siz29 byt29 agg29 zer29 fie29_0 pla29 und33 siz33 byt33 agg33 zer33 und36 siz36 byt36 agg36 zer36 siz38 byt38 agg38 zer38 fie38_0
attribute [go_sem] fie38_1 fie38_2 fie38_3 pla38 siz41 byt41 agg41 zer41 siz42 byt42 agg42 zer42 siz43 byt43 agg43 zer43 siz44 byt44 agg44 zer44 fie44_0 fie44_1 fie44_2 fie44_3 fie44_4 pla44 und45 siz45 byt45 agg45 zer45 und46 siz46 byt46 agg46 zer46 und50 siz50 byt50 agg50
attribute [go_sem] zer50 und55 siz55 byt55 agg55 zer55 siz57 byt57 agg57 zer57 und61 siz61 byt61 agg61 zer61 und62 siz62 byt62 agg62 zer62 und63 siz63 byt63 agg63 zer63 und71 siz71 byt71 agg71 zer71 und73 siz73 byt73 agg73 zer73 und82 siz82 byt82 agg82 zer82
attribute [go_sem] und86 siz86 byt86 agg86 zer86 siz88 byt88 agg88 zer88 fie88_0 fie88_1 pla88 siz95 byt95 agg95 zer95 fie95_0 fie95_1 pla95 siz103 byt103 agg103 zer103 fie103_0 fie103_1 fie103_2 fie103_3 pla103 und108 siz108 byt108 agg108 zer108 und109 siz109 byt109 agg109 zer109 und110 siz110
attribute [go_sem] byt110 agg110 zer110 siz111 byt111 agg111 zer111 und112 siz112 byt112 agg112 zer112 und113 siz113 byt113 agg113 zer113 und114 siz114 byt114 agg114 zer114 siz116 byt116 agg116 zer116 fie116_0 fie116_1 fie116_2 fie116_3 fie116_4 fie116_5 fie116_6 fie116_7 fie116_8 fie116_9 fie116_10 pla116 res3 ext3
attribute [go_sem] res4 ext4 res5 ext5 lv5_7 res6 ext6 res7 ext7 lv7_9 res8 ext8 lv8_11 lv8_18 res9 ext9 lv9_2 res10 ext10 res11 ext11 lv11_4 res12 ext12 lv12_3 res13 ext13 lv13_4 res14 ext14 res15 ext15 lv15_4 res16 ext16 res17 ext17 res18 ext18 lv18_12
attribute [go_sem] res19 ext19 lv19_3 res20 ext20 res21 ext21 lv21_3 res22 ext22 lv22_9 res23 ext23 lv23_9 res24 ext24 lv24_3 res25 ext25 lv25_11 res26 ext26 res27 ext27 lv27_2 res28 ext28 res29 ext29 res30 ext30 res31 ext31 res32 ext32 lv32_2 res33 ext33 res34 ext34
attribute [go_sem] res35 ext35 res36 ext36 res37 ext37 res38 ext38 lv38_3 res39 ext39 res40 ext40 res41 ext41 lv41_7 res42 ext42 res43 ext43 res44 ext44 res45 ext45 lv45_2 res46 ext46 res47 ext47 lv47_5 lv47_8 res48 ext48 lv48_2 res49 ext49 lv49_4 lv49_7 lv49_12 res50
attribute [go_sem] ext50 lv50_3 res51 ext51 lv51_2 res52 ext52 lv52_4 res53 ext53 res54 ext54 lv54_4 res55 ext55 res56 ext56 res57 ext57 res58 ext58 res60 ext60 res61 ext61 lv61_6 res62 ext62 res63 ext63 res64 ext64 res65 ext65 lv65_3 res66 ext66
end Go.Proofs.Ytepofpmohiegpaa.D
