/- What the evaluator asks of the seat's types and functions: rows for simp. -/
import Derived.Test.YtmaehmacngldbaaDenT1
import Derived.Test.YtmaehmacngldbaaDenK4
namespace Go.Proofs.Ytmaehmacngldbaa.D
open Go Go.Den Go.Proofs
theorem siz1 : tSize E.P 1 = some 1 := by kernel_rfl
theorem byt1 : tBytes E.P 1 = some 8 := by kernel_rfl
theorem agg1 : tAgg E.P 1 = some false := by kernel_rfl
theorem zer1 : tZero E.P 1 = some [.nilf] := by kernel_rfl
theorem und2 : E.P.underlying 2 = some (.int .i64) := by kernel_rfl
theorem siz2 : tSize E.P 2 = some 1 := by kernel_rfl
theorem byt2 : tBytes E.P 2 = some 8 := by kernel_rfl
theorem agg2 : tAgg E.P 2 = some false := by kernel_rfl
theorem zer2 : tZero E.P 2 = some [.int .i64 (0)] := by kernel_rfl
theorem und3 : E.P.underlying 3 = some (.int .i64) := by kernel_rfl
theorem siz3 : tSize E.P 3 = some 1 := by kernel_rfl
theorem byt3 : tBytes E.P 3 = some 8 := by kernel_rfl
theorem agg3 : tAgg E.P 3 = some false := by kernel_rfl
theorem zer3 : tZero E.P 3 = some [.int .i64 (0)] := by kernel_rfl
theorem und4 : E.P.underlying 4 = some (.bool) := by kernel_rfl
theorem siz4 : tSize E.P 4 = some 1 := by kernel_rfl
theorem byt4 : tBytes E.P 4 = some 1 := by kernel_rfl
theorem agg4 : tAgg E.P 4 = some false := by kernel_rfl
theorem zer4 : tZero E.P 4 = some [.bool false] := by kernel_rfl
theorem und5 : E.P.underlying 5 = some (.int .u8) := by kernel_rfl
theorem siz5 : tSize E.P 5 = some 1 := by kernel_rfl
theorem byt5 : tBytes E.P 5 = some 1 := by kernel_rfl
theorem agg5 : tAgg E.P 5 = some false := by kernel_rfl
theorem zer5 : tZero E.P 5 = some [.int .u8 (0)] := by kernel_rfl
theorem und9 : E.P.underlying 9 = some (.string) := by kernel_rfl
theorem siz9 : tSize E.P 9 = some 1 := by kernel_rfl
theorem byt9 : tBytes E.P 9 = some 16 := by kernel_rfl
theorem agg9 : tAgg E.P 9 = some false := by kernel_rfl
theorem zer9 : tZero E.P 9 = some [.str []] := by kernel_rfl
theorem und12 : E.P.underlying 12 = some (.int .u64) := by kernel_rfl
theorem siz12 : tSize E.P 12 = some 1 := by kernel_rfl
theorem byt12 : tBytes E.P 12 = some 8 := by kernel_rfl
theorem agg12 : tAgg E.P 12 = some false := by kernel_rfl
theorem zer12 : tZero E.P 12 = some [.int .u64 (0)] := by kernel_rfl
theorem und17 : E.P.underlying 17 = some (.pointer 128) := by kernel_rfl
theorem siz17 : tSize E.P 17 = some 1 := by kernel_rfl
theorem byt17 : tBytes E.P 17 = some 8 := by kernel_rfl
theorem agg17 : tAgg E.P 17 = some false := by kernel_rfl
theorem zer17 : tZero E.P 17 = some [.nilp] := by kernel_rfl
theorem siz22 : tSize E.P 22 = some 4 := by kernel_rfl
theorem byt22 : tBytes E.P 22 = some 48 := by kernel_rfl
theorem agg22 : tAgg E.P 22 = some true := by kernel_rfl
theorem zer22 : tZero E.P 22 = some [.str [], .int .i64 (0), .str [], .bool false] := by kernel_rfl
theorem fie22_0 : tField E.P 22 0 = some (0, 9) := by kernel_rfl
theorem fie22_1 : tField E.P 22 1 = some (1, 3) := by kernel_rfl
theorem fie22_2 : tField E.P 22 2 = some (2, 9) := by kernel_rfl
theorem fie22_3 : tField E.P 22 3 = some (3, 4) := by kernel_rfl
theorem pla22 : tPlaces E.P 22 = some [(0, 1), (1, 1), (2, 1), (3, 1)] := by kernel_rfl
theorem und24 : E.P.underlying 24 = some (.slice 22) := by kernel_rfl
theorem siz24 : tSize E.P 24 = some 1 := by kernel_rfl
theorem byt24 : tBytes E.P 24 = some 24 := by kernel_rfl
theorem agg24 : tAgg E.P 24 = some false := by kernel_rfl
theorem zer24 : tZero E.P 24 = some [.nils] := by kernel_rfl
theorem und25 : E.P.underlying 25 = some (.slice 28) := by kernel_rfl
theorem siz25 : tSize E.P 25 = some 1 := by kernel_rfl
theorem byt25 : tBytes E.P 25 = some 24 := by kernel_rfl
theorem agg25 : tAgg E.P 25 = some false := by kernel_rfl
theorem zer25 : tZero E.P 25 = some [.nils] := by kernel_rfl
theorem und28 : E.P.underlying 28 = some (.slice 5) := by kernel_rfl
theorem siz28 : tSize E.P 28 = some 1 := by kernel_rfl
theorem byt28 : tBytes E.P 28 = some 24 := by kernel_rfl
theorem agg28 : tAgg E.P 28 = some false := by kernel_rfl
theorem zer28 : tZero E.P 28 = some [.nils] := by kernel_rfl
theorem und33 : E.P.underlying 33 = some (.slice 3) := by kernel_rfl
theorem siz33 : tSize E.P 33 = some 1 := by kernel_rfl
theorem byt33 : tBytes E.P 33 = some 24 := by kernel_rfl
theorem agg33 : tAgg E.P 33 = some false := by kernel_rfl
theorem zer33 : tZero E.P 33 = some [.nils] := by kernel_rfl
theorem und37 : E.P.underlying 37 = some (.slice 9) := by kernel_rfl
theorem siz37 : tSize E.P 37 = some 1 := by kernel_rfl
theorem byt37 : tBytes E.P 37 = some 24 := by kernel_rfl
theorem agg37 : tAgg E.P 37 = some false := by kernel_rfl
theorem zer37 : tZero E.P 37 = some [.nils] := by kernel_rfl
theorem und42 : E.P.underlying 42 = some (.pointer 56) := by kernel_rfl
theorem siz42 : tSize E.P 42 = some 1 := by kernel_rfl
theorem byt42 : tBytes E.P 42 = some 8 := by kernel_rfl
theorem agg42 : tAgg E.P 42 = some false := by kernel_rfl
theorem zer42 : tZero E.P 42 = some [.nilp] := by kernel_rfl
theorem siz45 : tSize E.P 45 = some 1 := by kernel_rfl
theorem byt45 : tBytes E.P 45 = some 8 := by kernel_rfl
theorem agg45 : tAgg E.P 45 = some false := by kernel_rfl
theorem zer45 : tZero E.P 45 = some [.nilf] := by kernel_rfl
theorem und47 : E.P.underlying 47 = some (.int .u64) := by kernel_rfl
theorem siz47 : tSize E.P 47 = some 1 := by kernel_rfl
theorem byt47 : tBytes E.P 47 = some 8 := by kernel_rfl
theorem agg47 : tAgg E.P 47 = some false := by kernel_rfl
theorem zer47 : tZero E.P 47 = some [.int .u64 (0)] := by kernel_rfl
theorem siz51 : tSize E.P 51 = some 1 := by kernel_rfl
theorem byt51 : tBytes E.P 51 = some 8 := by kernel_rfl
theorem agg51 : tAgg E.P 51 = some false := by kernel_rfl
theorem zer51 : tZero E.P 51 = some [.nilf] := by kernel_rfl
theorem siz56 : tSize E.P 56 = some 2 := by kernel_rfl
theorem byt56 : tBytes E.P 56 = some 32 := by kernel_rfl
theorem agg56 : tAgg E.P 56 = some true := by kernel_rfl
theorem zer56 : tZero E.P 56 = some [.nils, .bool false] := by kernel_rfl
theorem fie56_0 : tField E.P 56 0 = some (0, 28) := by kernel_rfl
theorem fie56_1 : tField E.P 56 1 = some (1, 4) := by kernel_rfl
theorem pla56 : tPlaces E.P 56 = some [(0, 1), (1, 1)] := by kernel_rfl
theorem und58 : E.P.underlying 58 = some (.int .u64) := by kernel_rfl
theorem siz58 : tSize E.P 58 = some 1 := by kernel_rfl
theorem byt58 : tBytes E.P 58 = some 8 := by kernel_rfl
theorem agg58 : tAgg E.P 58 = some false := by kernel_rfl
theorem zer58 : tZero E.P 58 = some [.int .u64 (0)] := by kernel_rfl
theorem und60 : E.P.underlying 60 = some (.slice 58) := by kernel_rfl
theorem siz60 : tSize E.P 60 = some 1 := by kernel_rfl
theorem byt60 : tBytes E.P 60 = some 24 := by kernel_rfl
theorem agg60 : tAgg E.P 60 = some false := by kernel_rfl
theorem zer60 : tZero E.P 60 = some [.nils] := by kernel_rfl
theorem und72 : E.P.underlying 72 = some (.pointer 74) := by kernel_rfl
theorem siz72 : tSize E.P 72 = some 1 := by kernel_rfl
theorem byt72 : tBytes E.P 72 = some 8 := by kernel_rfl
theorem agg72 : tAgg E.P 72 = some false := by kernel_rfl
theorem zer72 : tZero E.P 72 = some [.nilp] := by kernel_rfl
theorem siz74 : tSize E.P 74 = some 2 := by kernel_rfl
theorem byt74 : tBytes E.P 74 = some 32 := by kernel_rfl
theorem agg74 : tAgg E.P 74 = some true := by kernel_rfl
theorem zer74 : tZero E.P 74 = some [.nils, .bool false] := by kernel_rfl
theorem fie74_0 : tField E.P 74 0 = some (0, 28) := by kernel_rfl
theorem fie74_1 : tField E.P 74 1 = some (1, 4) := by kernel_rfl
theorem pla74 : tPlaces E.P 74 = some [(0, 1), (1, 1)] := by kernel_rfl
theorem und78 : E.P.underlying 78 = some (.slice 2) := by kernel_rfl
theorem siz78 : tSize E.P 78 = some 1 := by kernel_rfl
theorem byt78 : tBytes E.P 78 = some 24 := by kernel_rfl
theorem agg78 : tAgg E.P 78 = some false := by kernel_rfl
theorem zer78 : tZero E.P 78 = some [.nils] := by kernel_rfl
theorem siz87 : tSize E.P 87 = some 1 := by kernel_rfl
theorem byt87 : tBytes E.P 87 = some 8 := by kernel_rfl
theorem agg87 : tAgg E.P 87 = some false := by kernel_rfl
theorem zer87 : tZero E.P 87 = some [.nilf] := by kernel_rfl
theorem siz89 : tSize E.P 89 = some 1 := by kernel_rfl
theorem byt89 : tBytes E.P 89 = some 8 := by kernel_rfl
theorem agg89 : tAgg E.P 89 = some false := by kernel_rfl
theorem zer89 : tZero E.P 89 = some [.nilf] := by kernel_rfl
theorem und105 : E.P.underlying 105 = some (.int .u32) := by kernel_rfl
theorem siz105 : tSize E.P 105 = some 1 := by kernel_rfl
theorem byt105 : tBytes E.P 105 = some 4 := by kernel_rfl
theorem agg105 : tAgg E.P 105 = some false := by kernel_rfl
theorem zer105 : tZero E.P 105 = some [.int .u32 (0)] := by kernel_rfl
theorem und121 : E.P.underlying 121 = some (.int .u8) := by kernel_rfl
theorem siz121 : tSize E.P 121 = some 1 := by kernel_rfl
theorem byt121 : tBytes E.P 121 = some 1 := by kernel_rfl
theorem agg121 : tAgg E.P 121 = some false := by kernel_rfl
theorem zer121 : tZero E.P 121 = some [.int .u8 (0)] := by kernel_rfl
theorem und122 : E.P.underlying 122 = some (.int .u8) := by kernel_rfl
theorem siz122 : tSize E.P 122 = some 1 := by kernel_rfl
theorem byt122 : tBytes E.P 122 = some 1 := by kernel_rfl
theorem agg122 : tAgg E.P 122 = some false := by kernel_rfl
theorem zer122 : tZero E.P 122 = some [.int .u8 (0)] := by kernel_rfl
theorem siz123 : tSize E.P 123 = some 1 := by kernel_rfl
theorem byt123 : tBytes E.P 123 = some 8 := by kernel_rfl
theorem agg123 : tAgg E.P 123 = some false := by kernel_rfl
theorem zer123 : tZero E.P 123 = some [.nilf] := by kernel_rfl
theorem und124 : E.P.underlying 124 = some (.pointer 5) := by kernel_rfl
theorem siz124 : tSize E.P 124 = some 1 := by kernel_rfl
theorem byt124 : tBytes E.P 124 = some 8 := by kernel_rfl
theorem agg124 : tAgg E.P 124 = some false := by kernel_rfl
theorem zer124 : tZero E.P 124 = some [.nilp] := by kernel_rfl
theorem und125 : E.P.underlying 125 = some (.int .i32) := by kernel_rfl
theorem siz125 : tSize E.P 125 = some 1 := by kernel_rfl
theorem byt125 : tBytes E.P 125 = some 4 := by kernel_rfl
theorem agg125 : tAgg E.P 125 = some false := by kernel_rfl
theorem zer125 : tZero E.P 125 = some [.int .i32 (0)] := by kernel_rfl
theorem und126 : E.P.underlying 126 = some (.int .i32) := by kernel_rfl
theorem siz126 : tSize E.P 126 = some 1 := by kernel_rfl
theorem byt126 : tBytes E.P 126 = some 4 := by kernel_rfl
theorem agg126 : tAgg E.P 126 = some false := by kernel_rfl
theorem zer126 : tZero E.P 126 = some [.int .i32 (0)] := by kernel_rfl
theorem siz128 : tSize E.P 128 = some 11 := by kernel_rfl
theorem byt128 : tBytes E.P 128 = some 48 := by kernel_rfl
theorem agg128 : tAgg E.P 128 = some true := by kernel_rfl
theorem zer128 : tZero E.P 128 = some [.int .u64 (0), .int .u64 (0), .int .u32 (0), .int .u8 (0), .int .u8 (0), .int .u8 (0), .int .u8 (0), .nilf, .nilp, .int .i32 (0), .int .i32 (0)] := by kernel_rfl
theorem fie128_0 : tField E.P 128 0 = some (0, 12) := by kernel_rfl
theorem fie128_1 : tField E.P 128 1 = some (1, 12) := by kernel_rfl
theorem fie128_2 : tField E.P 128 2 = some (2, 105) := by kernel_rfl
theorem fie128_3 : tField E.P 128 3 = some (3, 121) := by kernel_rfl
theorem fie128_4 : tField E.P 128 4 = some (4, 5) := by kernel_rfl
theorem fie128_5 : tField E.P 128 5 = some (5, 5) := by kernel_rfl
theorem fie128_6 : tField E.P 128 6 = some (6, 122) := by kernel_rfl
theorem fie128_7 : tField E.P 128 7 = some (7, 123) := by kernel_rfl
theorem fie128_8 : tField E.P 128 8 = some (8, 124) := by kernel_rfl
theorem fie128_9 : tField E.P 128 9 = some (9, 125) := by kernel_rfl
theorem fie128_10 : tField E.P 128 10 = some (10, 126) := by kernel_rfl
theorem pla128 : tPlaces E.P 128 = some [(0, 1), (1, 1), (2, 1), (3, 1), (4, 1), (5, 1), (6, 1), (7, 1), (8, 1), (9, 1), (10, 1)] := by kernel_rfl
theorem res3 : Try.f3.results.toList = [.tmp 2] := by kernel_rfl
theorem ext3 : E.ext 3 = none := by kernel_rfl
theorem res4 : Try.f4.results.toList = [.tmp 6] := by kernel_rfl
theorem ext4 : E.ext 4 = none := by kernel_rfl
theorem lv4_3 : E.lv 4 3 = [⟨7, []⟩, ⟨24, []⟩, ⟨25, []⟩, ⟨26, []⟩] := by kernel_rfl
theorem lv4_12 : E.lv 4 12 = [⟨7, []⟩, ⟨10, []⟩, ⟨11, []⟩, ⟨12, []⟩, ⟨13, []⟩, ⟨47, []⟩, ⟨48, []⟩] := by kernel_rfl
theorem lv4_15 : E.lv 4 15 = [⟨7, []⟩, ⟨10, []⟩, ⟨11, []⟩, ⟨12, []⟩, ⟨13, []⟩, ⟨14, []⟩, ⟨47, []⟩, ⟨48, []⟩, ⟨55, []⟩, ⟨56, []⟩] := by kernel_rfl
theorem lv4_21 : E.lv 4 21 = [⟨7, []⟩, ⟨10, []⟩, ⟨11, []⟩, ⟨12, []⟩, ⟨13, []⟩, ⟨16, []⟩, ⟨47, []⟩, ⟨48, []⟩] := by kernel_rfl
theorem lv4_29 : E.lv 4 29 = [⟨10, []⟩, ⟨11, []⟩, ⟨13, []⟩, ⟨17, []⟩, ⟨109, []⟩, ⟨110, []⟩] := by kernel_rfl
theorem res5 : Try.f5.results.toList = [.tmp 4] := by kernel_rfl
theorem ext5 : E.ext 5 = none := by kernel_rfl
theorem lv5_4 : E.lv 5 4 = [⟨0, []⟩, ⟨1, []⟩, ⟨5, []⟩, ⟨6, [(0, 28, 1)]⟩, ⟨7, []⟩, ⟨8, []⟩] := by kernel_rfl
theorem lv5_9 : E.lv 5 9 = [⟨1, []⟩, ⟨5, []⟩, ⟨6, []⟩, ⟨7, [(0, 28, 1)]⟩, ⟨9, []⟩] := by kernel_rfl
theorem res6 : Try.f6.results.toList = [.tmp 16] := by kernel_rfl
theorem ext6 : E.ext 6 = none := by kernel_rfl
theorem lv6_7 : E.lv 6 7 = [⟨4, []⟩, ⟨5, []⟩, ⟨6, []⟩, ⟨7, []⟩, ⟨17, []⟩, ⟨55, []⟩, ⟨56, []⟩, ⟨57, []⟩] := by kernel_rfl
theorem lv6_19 : E.lv 6 19 = [⟨4, []⟩, ⟨5, []⟩, ⟨6, []⟩, ⟨7, []⟩, ⟨17, []⟩, ⟨55, []⟩, ⟨56, []⟩, ⟨57, []⟩, ⟨110, []⟩, ⟨111, []⟩, ⟨112, []⟩] := by kernel_rfl
theorem lv6_22 : E.lv 6 22 = [⟨4, []⟩, ⟨5, []⟩, ⟨6, []⟩, ⟨7, []⟩, ⟨17, []⟩, ⟨27, []⟩, ⟨55, []⟩, ⟨56, []⟩, ⟨57, []⟩, ⟨110, []⟩, ⟨111, []⟩, ⟨112, []⟩, ⟨121, []⟩, ⟨122, []⟩, ⟨123, []⟩] := by kernel_rfl
theorem lv6_29 : E.lv 6 29 = [⟨4, []⟩, ⟨5, []⟩, ⟨6, []⟩, ⟨7, []⟩, ⟨17, []⟩, ⟨27, []⟩, ⟨29, []⟩, ⟨32, []⟩, ⟨33, []⟩, ⟨55, []⟩, ⟨56, []⟩, ⟨57, []⟩, ⟨110, []⟩, ⟨111, []⟩, ⟨112, []⟩, ⟨121, []⟩, ⟨122, []⟩, ⟨123, []⟩, ⟨154, []⟩, ⟨155, []⟩, ⟨156, []⟩] := by kernel_rfl
theorem res7 : Try.f7.results.toList = [.tmp 6] := by kernel_rfl
theorem ext7 : E.ext 7 = none := by kernel_rfl
theorem lv7_3 : E.lv 7 3 = [⟨7, []⟩, ⟨26, []⟩, ⟨27, []⟩, ⟨28, []⟩] := by kernel_rfl
theorem lv7_13 : E.lv 7 13 = [⟨7, []⟩, ⟨10, []⟩, ⟨54, []⟩, ⟨55, []⟩, ⟨56, []⟩] := by kernel_rfl
theorem lv7_21 : E.lv 7 21 = [⟨7, []⟩, ⟨10, []⟩, ⟨115, []⟩, ⟨116, []⟩] := by kernel_rfl
theorem res8 : Try.f8.results.toList = [.tmp 2] := by kernel_rfl
theorem ext8 : E.ext 8 = none := by kernel_rfl
theorem lv8_3 : E.lv 8 3 = [⟨3, []⟩, ⟨8, []⟩, ⟨9, []⟩] := by kernel_rfl
theorem res9 : Try.f9.results.toList = [.tmp 4, .tmp 5] := by kernel_rfl
theorem ext9 : E.ext 9 = none := by kernel_rfl
theorem res10 : Try.f10.results.toList = [.tmp 6, .tmp 7] := by kernel_rfl
theorem ext10 : E.ext 10 = none := by kernel_rfl
theorem res11 : Try.f11.results.toList = [.tmp 0] := by kernel_rfl
theorem ext11 : E.ext 11 = none := by kernel_rfl
theorem res12 : Try.f12.results.toList = [.tmp 6] := by kernel_rfl
theorem ext12 : E.ext 12 = none := by kernel_rfl
theorem lv12_3 : E.lv 12 3 = [⟨0, []⟩, ⟨1, []⟩, ⟨2, []⟩, ⟨7, [(0, 28, 1)]⟩, ⟨8, []⟩] := by kernel_rfl
theorem res13 : Try.f13.results.toList = [.tmp 2] := by kernel_rfl
theorem ext13 : E.ext 13 = none := by kernel_rfl
theorem lv13_3 : E.lv 13 3 = [⟨0, []⟩, ⟨3, []⟩, ⟨4, []⟩] := by kernel_rfl
theorem res14 : Try.f14.results.toList = [.tmp 2] := by kernel_rfl
theorem ext14 : E.ext 14 = none := by kernel_rfl
theorem res15 : Try.f15.results.toList = [.tmp 4, .tmp 5] := by kernel_rfl
theorem ext15 : E.ext 15 = none := by kernel_rfl
theorem res16 : Try.f16.results.toList = [.tmp 4, .tmp 5] := by kernel_rfl
theorem ext16 : E.ext 16 = none := by kernel_rfl
theorem res17 : Try.f17.results.toList = [.tmp 4, .tmp 5] := by kernel_rfl
theorem ext17 : E.ext 17 = none := by kernel_rfl
theorem res18 : Try.f18.results.toList = [.tmp 4] := by kernel_rfl
theorem ext18 : E.ext 18 = none := by kernel_rfl
theorem lv18_4 : E.lv 18 4 = [⟨0, []⟩, ⟨1, []⟩, ⟨5, []⟩] := by kernel_rfl
theorem res19 : Try.f19.results.toList = [.tmp 2] := by kernel_rfl
theorem ext19 : E.ext 19 = none := by kernel_rfl
theorem res20 : Try.f20.results.toList = [.tmp 4] := by kernel_rfl
theorem ext20 : E.ext 20 = none := by kernel_rfl
theorem lv20_3 : E.lv 20 3 = [⟨0, []⟩, ⟨5, [(0, 28, 1)]⟩, ⟨6, []⟩, ⟨7, []⟩] := by kernel_rfl
theorem res21 : Try.f21.results.toList = [.tmp 4] := by kernel_rfl
theorem ext21 : E.ext 21 = none := by kernel_rfl
theorem lv21_2 : E.lv 21 2 = [⟨0, []⟩, ⟨1, []⟩, ⟨5, [(0, 28, 1)]⟩] := by kernel_rfl
theorem lv21_7 : E.lv 21 7 = [⟨0, []⟩, ⟨1, []⟩, ⟨5, [(0, 28, 1)]⟩, ⟨7, []⟩, ⟨32, []⟩, ⟨33, []⟩] := by kernel_rfl
theorem res22 : Try.f22.results.toList = [.tmp 4] := by kernel_rfl
theorem ext22 : E.ext 22 = none := by kernel_rfl
theorem lv22_8 : E.lv 22 8 = [⟨6, []⟩, ⟨9, [(0, 28, 1)]⟩, ⟨37, []⟩, ⟨38, []⟩, ⟨39, []⟩] := by kernel_rfl
theorem res23 : Try.f23.results.toList = [.tmp 4] := by kernel_rfl
theorem ext23 : E.ext 23 = none := by kernel_rfl
theorem res24 : Try.f24.results.toList = [.tmp 2] := by kernel_rfl
theorem ext24 : E.ext 24 = some .clip := by kernel_rfl
theorem res25 : Try.f25.results.toList = [.tmp 2] := by kernel_rfl
theorem ext25 : E.ext 25 = none := by kernel_rfl
theorem lv25_2 : E.lv 25 2 = [⟨0, []⟩, ⟨3, []⟩] := by kernel_rfl
theorem res26 : Try.f26.results.toList = [.tmp 4] := by kernel_rfl
theorem ext26 : E.ext 26 = none := by kernel_rfl
theorem lv26_3 : E.lv 26 3 = [⟨0, []⟩, ⟨1, []⟩, ⟨5, []⟩, ⟨6, []⟩] := by kernel_rfl
theorem res27 : Try.f27.results.toList = [.tmp 4] := by kernel_rfl
theorem ext27 : E.ext 27 = none := by kernel_rfl
theorem res28 : Try.f28.results.toList = [.tmp 2] := by kernel_rfl
theorem ext28 : E.ext 28 = none := by kernel_rfl
theorem res29 : Try.f29.results.toList = [.tmp 4, .tmp 5] := by kernel_rfl
theorem ext29 : E.ext 29 = none := by kernel_rfl
theorem res30 : Try.f30.results.toList = [.tmp 6, .tmp 7] := by kernel_rfl
theorem ext30 : E.ext 30 = none := by kernel_rfl
theorem lv30_8 : E.lv 30 8 = [⟨1, []⟩, ⟨2, []⟩, ⟨8, [(0, 5, 1)]⟩, ⟨9, []⟩] := by kernel_rfl
theorem lv30_13 : E.lv 30 13 = [⟨1, []⟩, ⟨2, []⟩, ⟨8, [(0, 5, 1)]⟩, ⟨10, []⟩] := by kernel_rfl
theorem lv30_15 : E.lv 30 15 = [⟨1, []⟩, ⟨2, []⟩, ⟨8, []⟩, ⟨10, []⟩, ⟨11, []⟩] := by kernel_rfl
theorem lv30_26 : E.lv 30 26 = [⟨1, []⟩, ⟨8, []⟩, ⟨12, []⟩, ⟨13, []⟩, ⟨14, []⟩] := by kernel_rfl
theorem lv30_31 : E.lv 30 31 = [⟨1, []⟩, ⟨8, []⟩, ⟨12, []⟩, ⟨13, []⟩, ⟨15, [(0, 58, 1)]⟩, ⟨16, []⟩] := by kernel_rfl
theorem lv30_40 : E.lv 30 40 = [⟨1, []⟩, ⟨2, []⟩, ⟨8, [(0, 5, 1)]⟩, ⟨18, []⟩, ⟨19, []⟩] := by kernel_rfl
theorem lv30_45 : E.lv 30 45 = [⟨1, []⟩, ⟨8, []⟩, ⟨18, []⟩, ⟨20, [(0, 58, 1)]⟩, ⟨21, []⟩] := by kernel_rfl
theorem lv30_48 : E.lv 30 48 = [⟨1, []⟩, ⟨8, []⟩, ⟨18, []⟩, ⟨20, []⟩, ⟨21, []⟩, ⟨22, []⟩] := by kernel_rfl
theorem res31 : Try.f31.results.toList = [.tmp 6, .tmp 7] := by kernel_rfl
theorem ext31 : E.ext 31 = none := by kernel_rfl
theorem lv31_8 : E.lv 31 8 = [⟨0, []⟩, ⟨1, []⟩, ⟨2, []⟩, ⟨8, []⟩, ⟨9, [(0, 28, 1)]⟩, ⟨11, []⟩] := by kernel_rfl
theorem lv31_12 : E.lv 31 12 = [⟨0, []⟩, ⟨1, []⟩, ⟨2, []⟩, ⟨8, []⟩, ⟨9, [(0, 28, 1)]⟩] := by kernel_rfl
theorem lv31_17 : E.lv 31 17 = [⟨0, []⟩, ⟨1, []⟩, ⟨2, []⟩, ⟨8, []⟩, ⟨9, [(0, 28, 1)]⟩, ⟨12, []⟩, ⟨13, []⟩] := by kernel_rfl
theorem lv31_29 : E.lv 31 29 = [⟨0, []⟩, ⟨1, []⟩, ⟨2, []⟩, ⟨8, []⟩, ⟨9, [(0, 28, 1)]⟩, ⟨14, []⟩, ⟨15, []⟩, ⟨17, []⟩] := by kernel_rfl
theorem lv31_35 : E.lv 31 35 = [⟨0, []⟩, ⟨1, []⟩, ⟨2, []⟩, ⟨8, []⟩, ⟨9, []⟩, ⟨10, [(0, 28, 1)]⟩, ⟨18, []⟩, ⟨19, []⟩] := by kernel_rfl
theorem lv31_40 : E.lv 31 40 = [⟨0, []⟩, ⟨1, []⟩, ⟨2, []⟩, ⟨8, []⟩, ⟨9, [(0, 28, 1)]⟩, ⟨10, []⟩, ⟨20, []⟩, ⟨21, []⟩, ⟨22, []⟩] := by kernel_rfl
theorem res32 : Try.f32.results.toList = [.tmp 2] := by kernel_rfl
theorem ext32 : E.ext 32 = some (.fn (cloneF 5 1 1)) := by kernel_rfl
theorem res33 : Try.f33.results.toList = [.tmp 4] := by kernel_rfl
theorem ext33 : E.ext 33 = none := by kernel_rfl
theorem res34 : Try.f34.results.toList = [.tmp 2] := by kernel_rfl
theorem ext34 : E.ext 34 = none := by kernel_rfl
theorem lv34_3 : E.lv 34 3 = [⟨0, []⟩, ⟨3, []⟩, ⟨9, []⟩, ⟨10, []⟩, ⟨11, []⟩] := by kernel_rfl
theorem res35 : Try.f35.results.toList = [.tmp 2] := by kernel_rfl
theorem ext35 : E.ext 35 = none := by kernel_rfl
theorem res36 : Try.f36.results.toList = [.tmp 6, .tmp 7] := by kernel_rfl
theorem ext36 : E.ext 36 = none := by kernel_rfl
theorem lv36_6 : E.lv 36 6 = [⟨0, []⟩, ⟨1, []⟩, ⟨8, []⟩, ⟨29, []⟩, ⟨30, []⟩] := by kernel_rfl
theorem res37 : Try.f37.results.toList = [.tmp 2] := by kernel_rfl
theorem ext37 : E.ext 37 = none := by kernel_rfl
theorem res38 : Try.f38.results.toList = [.tmp 2] := by kernel_rfl
theorem ext38 : E.ext 38 = none := by kernel_rfl
theorem res39 : Try.f39.results.toList = [.tmp 4] := by kernel_rfl
theorem ext39 : E.ext 39 = none := by kernel_rfl
theorem lv39_2 : E.lv 39 2 = [⟨0, []⟩, ⟨1, []⟩, ⟨7, []⟩, ⟨8, []⟩] := by kernel_rfl
theorem res40 : Try.f40.results.toList = [.tmp 2] := by kernel_rfl
theorem ext40 : E.ext 40 = none := by kernel_rfl
theorem lv40_3 : E.lv 40 3 = [⟨3, [(0, 5, 1)]⟩, ⟨6, []⟩, ⟨7, []⟩, ⟨8, []⟩] := by kernel_rfl
theorem res41 : Try.f41.results.toList = [.tmp 2] := by kernel_rfl
theorem ext41 : E.ext 41 = none := by kernel_rfl
theorem lv41_2 : E.lv 41 2 = [⟨0, []⟩, ⟨3, [(0, 5, 1)]⟩] := by kernel_rfl
theorem lv41_4 : E.lv 41 4 = [⟨0, []⟩, ⟨3, []⟩, ⟨4, []⟩] := by kernel_rfl
theorem res42 : Try.f42.results.toList = [.tmp 2] := by kernel_rfl
theorem ext42 : E.ext 42 = none := by kernel_rfl
theorem lv42_4 : E.lv 42 4 = [⟨0, []⟩, ⟨3, []⟩, ⟨4, [(0, 5, 1)]⟩, ⟨20, []⟩, ⟨21, []⟩, ⟨22, []⟩] := by kernel_rfl
theorem lv42_10 : E.lv 42 10 = [⟨3, []⟩, ⟨4, []⟩, ⟨7, [(0, 58, 1)]⟩, ⟨30, []⟩, ⟨31, []⟩, ⟨32, []⟩] := by kernel_rfl
theorem res43 : Try.f43.results.toList = [.tmp 6] := by kernel_rfl
theorem ext43 : E.ext 43 = none := by kernel_rfl
theorem res44 : Try.f44.results.toList = [.tmp 4] := by kernel_rfl
theorem ext44 : E.ext 44 = none := by kernel_rfl
theorem lv44_2 : E.lv 44 2 = [⟨1, []⟩, ⟨5, [(0, 5, 1)]⟩] := by kernel_rfl
theorem res45 : Try.f45.results.toList = [.tmp 2] := by kernel_rfl
theorem ext45 : E.ext 45 = none := by kernel_rfl
theorem lv45_3 : E.lv 45 3 = [⟨0, []⟩, ⟨3, []⟩, ⟨4, []⟩] := by kernel_rfl
theorem res46 : Try.f46.results.toList = [.tmp 2] := by kernel_rfl
theorem ext46 : E.ext 46 = none := by kernel_rfl
theorem lv46_2 : E.lv 46 2 = [⟨0, []⟩, ⟨3, []⟩] := by kernel_rfl
theorem res47 : Try.f47.results.toList = [.tmp 2] := by kernel_rfl
theorem ext47 : E.ext 47 = none := by kernel_rfl
theorem res48 : Try.f48.results.toList = [.tmp 4] := by kernel_rfl
theorem ext48 : E.ext 48 = none := by kernel_rfl
theorem lv48_4 : E.lv 48 4 = [⟨0, []⟩, ⟨1, []⟩, ⟨5, [(0, 5, 1)]⟩, ⟨6, []⟩] := by kernel_rfl
theorem lv48_7 : E.lv 48 7 = [⟨0, []⟩, ⟨1, []⟩, ⟨5, [(0, 5, 1)]⟩, ⟨6, []⟩, ⟨7, []⟩] := by kernel_rfl
theorem lv48_12 : E.lv 48 12 = [⟨5, []⟩, ⟨8, []⟩, ⟨9, []⟩] := by kernel_rfl
theorem res49 : Try.f49.results.toList = [.tmp 2] := by kernel_rfl
theorem ext49 : E.ext 49 = none := by kernel_rfl
theorem lv49_3 : E.lv 49 3 = [⟨0, []⟩, ⟨3, [(0, 28, 1)]⟩, ⟨4, []⟩] := by kernel_rfl
theorem lv49_6 : E.lv 49 6 = [⟨0, []⟩, ⟨3, []⟩, ⟨4, []⟩, ⟨5, []⟩] := by kernel_rfl
theorem res50 : Try.f50.results.toList = [.tmp 4] := by kernel_rfl
theorem ext50 : E.ext 50 = none := by kernel_rfl
theorem res51 : Try.f51.results.toList = [.tmp 2] := by kernel_rfl
theorem ext51 : E.ext 51 = none := by kernel_rfl
theorem lv51_3 : E.lv 51 3 = [⟨0, []⟩, ⟨3, []⟩, ⟨4, []⟩] := by kernel_rfl
theorem res52 : Try.f52.results.toList = [.tmp 2] := by kernel_rfl
theorem ext52 : E.ext 52 = none := by kernel_rfl
theorem res53 : Try.f53.results.toList = [.tmp 6, .tmp 7] := by kernel_rfl
theorem ext53 : E.ext 53 = none := by kernel_rfl
theorem lv53_6 : E.lv 53 6 = [⟨0, []⟩, ⟨1, []⟩, ⟨2, []⟩, ⟨8, [(0, 58, 1)]⟩, ⟨9, []⟩] := by kernel_rfl
theorem res54 : Try.f54.results.toList = [.tmp 2] := by kernel_rfl
theorem ext54 : E.ext 54 = none := by kernel_rfl
theorem lv54_3 : E.lv 54 3 = [⟨0, []⟩, ⟨3, [(0, 28, 1)]⟩, ⟨4, []⟩] := by kernel_rfl
theorem lv54_8 : E.lv 54 8 = [⟨0, []⟩, ⟨3, []⟩, ⟨4, []⟩, ⟨5, []⟩, ⟨6, [(0, 5, 1)]⟩, ⟨7, []⟩] := by kernel_rfl
theorem res55 : Try.f55.results.toList = [] := by kernel_rfl
theorem ext55 : E.ext 55 = none := by kernel_rfl
theorem res56 : Try.f56.results.toList = [.tmp 2] := by kernel_rfl
theorem ext56 : E.ext 56 = none := by kernel_rfl
theorem res57 : Try.f57.results.toList = [.tmp 4] := by kernel_rfl
theorem ext57 : E.ext 57 = none := by kernel_rfl
theorem res58 : Try.f58.results.toList = [.tmp 6] := by kernel_rfl
theorem ext58 : E.ext 58 = none := by kernel_rfl
theorem lv58_3 : E.lv 58 3 = [⟨0, []⟩, ⟨1, []⟩, ⟨2, []⟩, ⟨7, []⟩, ⟨8, []⟩] := by kernel_rfl
theorem res59 : Try.f59.results.toList = [.tmp 4] := by kernel_rfl
theorem ext59 : E.ext 59 = none := by kernel_rfl
theorem lv59_5 : E.lv 59 5 = [⟨0, []⟩, ⟨5, []⟩, ⟨6, []⟩, ⟨17, []⟩, ⟨18, []⟩, ⟨19, []⟩] := by kernel_rfl
theorem lv59_8 : E.lv 59 8 = [⟨0, []⟩, ⟨5, []⟩, ⟨6, []⟩, ⟨8, []⟩, ⟨9, []⟩, ⟨17, []⟩, ⟨18, []⟩, ⟨19, []⟩] := by kernel_rfl
theorem res60 : Try.f60.results.toList = [.tmp 2] := by kernel_rfl
theorem ext60 : E.ext 60 = some .clip := by kernel_rfl
theorem res61 : Try.f61.results.toList = [.tmp 2] := by kernel_rfl
theorem ext61 : E.ext 61 = none := by kernel_rfl
theorem res62 : Try.f62.results.toList = [.tmp 4] := by kernel_rfl
theorem ext62 : E.ext 62 = none := by kernel_rfl
theorem res63 : Try.f63.results.toList = [.tmp 4] := by kernel_rfl
theorem ext63 : E.ext 63 = none := by kernel_rfl
theorem lv63_2 : E.lv 63 2 = [⟨1, []⟩, ⟨5, [(0, 5, 1)]⟩] := by kernel_rfl
theorem res64 : Try.f64.results.toList = [.tmp 4] := by kernel_rfl
theorem ext64 : E.ext 64 = some (.rwx true 23 compactBG) := by kernel_rfl
theorem res65 : Try.f65.results.toList = [.tmp 4] := by kernel_rfl
theorem ext65 : E.ext 65 = none := by kernel_rfl
theorem res66 : Try.f66.results.toList = [.tmp 2] := by kernel_rfl
theorem ext66 : E.ext 66 = some (.fn (valuesF 76)) := by kernel_rfl
theorem res67 : Try.f67.results.toList = [.tmp 4] := by kernel_rfl
theorem ext67 : E.ext 67 = some (.fn compareF) := by kernel_rfl
theorem res68 : Try.f68.results.toList = [.tmp 6, .tmp 7] := by kernel_rfl
theorem ext68 : E.ext 68 = none := by kernel_rfl
theorem lv68_3 : E.lv 68 3 = [⟨0, []⟩, ⟨1, []⟩, ⟨2, []⟩, ⟨8, []⟩, ⟨9, []⟩, ⟨10, []⟩] := by kernel_rfl
theorem res69 : Try.f69.results.toList = [.tmp 4] := by kernel_rfl
theorem ext69 : E.ext 69 = none := by kernel_rfl
theorem res70 : Try.f70.results.toList = [.tmp 4] := by kernel_rfl
theorem ext70 : E.ext 70 = none := by kernel_rfl
theorem res71 : Try.f71.results.toList = [.tmp 6] := by kernel_rfl
theorem ext71 : E.ext 71 = none := by kernel_rfl
theorem lv71_3 : E.lv 71 3 = [⟨0, []⟩, ⟨1, []⟩, ⟨2, []⟩, ⟨7, []⟩, ⟨8, []⟩] := by kernel_rfl
theorem res72 : Try.f72.results.toList = [.tmp 2] := by kernel_rfl
theorem ext72 : E.ext 72 = none := by kernel_rfl
theorem res73 : Try.f73.results.toList = [.tmp 2] := by kernel_rfl
theorem ext73 : E.ext 73 = some .clip := by kernel_rfl
theorem res74 : Try.f74.results.toList = [.tmp 2] := by kernel_rfl
theorem ext74 : E.ext 74 = some (.fn (collectSF 76 28)) := by kernel_rfl
theorem res75 : Try.f75.results.toList = [] := by kernel_rfl
theorem ext75 : E.ext 75 = some (.rwx false 67 sortBG) := by kernel_rfl
theorem vwE (t : TypeId) : E.vw t = false := rfl
attribute [go_sem] vwE
attribute [go_sem] siz1 byt1 agg1 zer1 und2 siz2 byt2 agg2 zer2 und3 siz3 byt3 agg3 zer3 und4 siz4 byt4 agg4 zer4 und5 siz5 byt5 agg5 zer5 und9 siz9 byt9 agg9 zer9 und12 siz12 byt12 agg12 zer12 und17 siz17 byt17 agg17 zer17 siz22
attribute [go_sem] byt22 agg22 zer22 fie22_0 fie22_1 fie22_2 fie22_3 pla22 und24 siz24 byt24 agg24 zer24 und25 siz25 byt25 agg25 zer25 und28 siz28 byt28 agg28 zer28 und33 siz33 byt33 agg33 zer33 und37 siz37 byt37 agg37 zer37 und42 siz42 byt42 agg42 zer42 siz45 byt45
attribute [go_sem] agg45 zer45 und47 siz47 byt47 agg47 zer47 siz51 byt51 agg51 zer51 siz56 byt56 agg56 zer56 fie56_0 fie56_1 pla56 und58 siz58 byt58 agg58 zer58 und60 siz60 byt60 agg60 zer60 und72 siz72 byt72 agg72 zer72 siz74 byt74 agg74 zer74 fie74_0 fie74_1 pla74
attribute [go_sem] und78 siz78 byt78 agg78 zer78 siz87 byt87 agg87 zer87 siz89 byt89 agg89 zer89 und105 siz105 byt105 agg105 zer105 und121 siz121 byt121 agg121 zer121 und122 siz122 byt122 agg122 zer122 siz123 byt123 agg123 zer123 und124 siz124 byt124 agg124 zer124 und125 siz125 byt125
attribute [go_sem] agg125 zer125 und126 siz126 byt126 agg126 zer126 siz128 byt128 agg128 zer128 fie128_0 fie128_1 fie128_2 fie128_3 fie128_4 fie128_5 fie128_6 fie128_7 fie128_8 fie128_9 fie128_10 pla128 res3 ext3 res4 ext4 lv4_3 lv4_12 lv4_15 lv4_21 lv4_29 res5 ext5 lv5_4 lv5_9 res6 ext6 lv6_7 lv6_19
attribute [go_sem] lv6_22 lv6_29 res7 ext7 lv7_3 lv7_13 lv7_21 res8 ext8 lv8_3 res9 ext9 res10 ext10 res11 ext11 res12 ext12 lv12_3 res13 ext13 lv13_3 res14 ext14 res15 ext15 res16 ext16 res17 ext17 res18 ext18 lv18_4 res19 ext19 res20 ext20 lv20_3 res21 ext21
attribute [go_sem] lv21_2 lv21_7 res22 ext22 lv22_8 res23 ext23 res24 ext24 res25 ext25 lv25_2 res26 ext26 lv26_3 res27 ext27 res28 ext28 res29 ext29 res30 ext30 lv30_8 lv30_13 lv30_15 lv30_26 lv30_31 lv30_40 lv30_45 lv30_48 res31 ext31 lv31_8 lv31_12 lv31_17 lv31_29 lv31_35 lv31_40 res32
attribute [go_sem] ext32 res33 ext33 res34 ext34 lv34_3 res35 ext35 res36 ext36 lv36_6 res37 ext37 res38 ext38 res39 ext39 lv39_2 res40 ext40 lv40_3 res41 ext41 lv41_2 lv41_4 res42 ext42 lv42_4 lv42_10 res43 ext43 res44 ext44 lv44_2 res45 ext45 lv45_3 res46 ext46 lv46_2
attribute [go_sem] res47 ext47 res48 ext48 lv48_4 lv48_7 lv48_12 res49 ext49 lv49_3 lv49_6 res50 ext50 res51 ext51 lv51_3 res52 ext52 res53 ext53 lv53_6 res54 ext54 lv54_3 lv54_8 res55 ext55 res56 ext56 res57 ext57 res58 ext58 lv58_3 res59 ext59 lv59_5 lv59_8 res60 ext60
attribute [go_sem] res61 ext61 res62 ext62 res63 ext63 lv63_2 res64 ext64 res65 ext65 res66 ext66 res67 ext67 res68 ext68 lv68_3 res69 ext69 res70 ext70 res71 ext71 lv71_3 res72 ext72 res73 ext73 res74 ext74 res75 ext75
end Go.Proofs.Ytmaehmacngldbaa.D
