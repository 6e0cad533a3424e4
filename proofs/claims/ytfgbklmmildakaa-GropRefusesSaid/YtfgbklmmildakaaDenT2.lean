/- What the evaluator asks of the seat's types and functions: rows for simp. -/
import Derived.Test.YtfgbklmmildakaaDenT1
import Derived.Test.YtfgbklmmildakaaDenK4
namespace Go.Proofs.Ytfgbklmmildakaa.D
open Go Go.Den Go.Proofs
theorem siz1 : tSize E.P 1 = some 1 := by kernel_rfl
theorem byt1 : tBytes E.P 1 = some 8 := by kernel_rfl
theorem ptr1 : isPtrT E.P 1 = false := by kernel_rfl
theorem agg1 : tAgg E.P 1 = some false := by kernel_rfl
theorem zer1 : tZero E.P 1 = some [.nilf] := by kernel_rfl
theorem und2 : E.P.underlying 2 = some (.int .i64) := by kernel_rfl
theorem siz2 : tSize E.P 2 = some 1 := by kernel_rfl
theorem byt2 : tBytes E.P 2 = some 8 := by kernel_rfl
theorem ptr2 : isPtrT E.P 2 = false := by kernel_rfl
theorem agg2 : tAgg E.P 2 = some false := by kernel_rfl
theorem zer2 : tZero E.P 2 = some [.int .i64 (0)] := by kernel_rfl
theorem und3 : E.P.underlying 3 = some (.int .i64) := by kernel_rfl
theorem siz3 : tSize E.P 3 = some 1 := by kernel_rfl
theorem byt3 : tBytes E.P 3 = some 8 := by kernel_rfl
theorem ptr3 : isPtrT E.P 3 = false := by kernel_rfl
theorem agg3 : tAgg E.P 3 = some false := by kernel_rfl
theorem zer3 : tZero E.P 3 = some [.int .i64 (0)] := by kernel_rfl
theorem und4 : E.P.underlying 4 = some (.bool) := by kernel_rfl
theorem siz4 : tSize E.P 4 = some 1 := by kernel_rfl
theorem byt4 : tBytes E.P 4 = some 1 := by kernel_rfl
theorem ptr4 : isPtrT E.P 4 = false := by kernel_rfl
theorem agg4 : tAgg E.P 4 = some false := by kernel_rfl
theorem zer4 : tZero E.P 4 = some [.bool false] := by kernel_rfl
theorem und5 : E.P.underlying 5 = some (.int .u8) := by kernel_rfl
theorem siz5 : tSize E.P 5 = some 1 := by kernel_rfl
theorem byt5 : tBytes E.P 5 = some 1 := by kernel_rfl
theorem ptr5 : isPtrT E.P 5 = false := by kernel_rfl
theorem agg5 : tAgg E.P 5 = some false := by kernel_rfl
theorem zer5 : tZero E.P 5 = some [.int .u8 (0)] := by kernel_rfl
theorem und6 : E.P.underlying 6 = some (.int .u8) := by kernel_rfl
theorem siz6 : tSize E.P 6 = some 1 := by kernel_rfl
theorem byt6 : tBytes E.P 6 = some 1 := by kernel_rfl
theorem ptr6 : isPtrT E.P 6 = false := by kernel_rfl
theorem agg6 : tAgg E.P 6 = some false := by kernel_rfl
theorem zer6 : tZero E.P 6 = some [.int .u8 (0)] := by kernel_rfl
theorem siz8 : tSize E.P 8 = some 4 := by kernel_rfl
theorem byt8 : tBytes E.P 8 = some 24 := by kernel_rfl
theorem ptr8 : isPtrT E.P 8 = false := by kernel_rfl
theorem agg8 : tAgg E.P 8 = some true := by kernel_rfl
theorem zer8 : tZero E.P 8 = some [.int .i64 (0), .int .i64 (0), .bool false, .int .u8 (0)] := by kernel_rfl
theorem fie8_0 : tField E.P 8 0 = some (0, 2) := by kernel_rfl
theorem fie8_1 : tField E.P 8 1 = some (1, 3) := by kernel_rfl
theorem fie8_2 : tField E.P 8 2 = some (2, 4) := by kernel_rfl
theorem fie8_3 : tField E.P 8 3 = some (3, 6) := by kernel_rfl
theorem pla8 : tPlaces E.P 8 = some [(0, 1), (1, 1), (2, 1), (3, 1)] := by kernel_rfl
theorem und9 : E.P.underlying 9 = some (.string) := by kernel_rfl
theorem siz9 : tSize E.P 9 = some 1 := by kernel_rfl
theorem byt9 : tBytes E.P 9 = some 16 := by kernel_rfl
theorem ptr9 : isPtrT E.P 9 = false := by kernel_rfl
theorem agg9 : tAgg E.P 9 = some false := by kernel_rfl
theorem zer9 : tZero E.P 9 = some [.str []] := by kernel_rfl
theorem und22 : E.P.underlying 22 = some (.slice 54) := by kernel_rfl
theorem siz22 : tSize E.P 22 = some 1 := by kernel_rfl
theorem byt22 : tBytes E.P 22 = some 24 := by kernel_rfl
theorem ptr22 : isPtrT E.P 22 = false := by kernel_rfl
theorem agg22 : tAgg E.P 22 = some false := by kernel_rfl
theorem zer22 : tZero E.P 22 = some [.nils] := by kernel_rfl
theorem siz24 : tSize E.P 24 = some 1 := by kernel_rfl
theorem byt24 : tBytes E.P 24 = some 24 := by kernel_rfl
theorem ptr24 : isPtrT E.P 24 = false := by kernel_rfl
theorem agg24 : tAgg E.P 24 = some true := by kernel_rfl
theorem zer24 : tZero E.P 24 = some [.nils] := by kernel_rfl
theorem fie24_0 : tField E.P 24 0 = some (0, 22) := by kernel_rfl
theorem pla24 : tPlaces E.P 24 = some [(0, 1)] := by kernel_rfl
theorem und26 : E.P.underlying 26 = some (.slice 37) := by kernel_rfl
theorem siz26 : tSize E.P 26 = some 1 := by kernel_rfl
theorem byt26 : tBytes E.P 26 = some 24 := by kernel_rfl
theorem ptr26 : isPtrT E.P 26 = false := by kernel_rfl
theorem agg26 : tAgg E.P 26 = some false := by kernel_rfl
theorem zer26 : tZero E.P 26 = some [.nils] := by kernel_rfl
theorem und27 : E.P.underlying 27 = some (.slice 31) := by kernel_rfl
theorem siz27 : tSize E.P 27 = some 1 := by kernel_rfl
theorem byt27 : tBytes E.P 27 = some 24 := by kernel_rfl
theorem ptr27 : isPtrT E.P 27 = false := by kernel_rfl
theorem agg27 : tAgg E.P 27 = some false := by kernel_rfl
theorem zer27 : tZero E.P 27 = some [.nils] := by kernel_rfl
theorem und29 : E.P.underlying 29 = some (.slice 5) := by kernel_rfl
theorem siz29 : tSize E.P 29 = some 1 := by kernel_rfl
theorem byt29 : tBytes E.P 29 = some 24 := by kernel_rfl
theorem ptr29 : isPtrT E.P 29 = false := by kernel_rfl
theorem agg29 : tAgg E.P 29 = some false := by kernel_rfl
theorem zer29 : tZero E.P 29 = some [.nils] := by kernel_rfl
theorem siz31 : tSize E.P 31 = some 4 := by kernel_rfl
theorem byt31 : tBytes E.P 31 = some 48 := by kernel_rfl
theorem ptr31 : isPtrT E.P 31 = false := by kernel_rfl
theorem agg31 : tAgg E.P 31 = some true := by kernel_rfl
theorem zer31 : tZero E.P 31 = some [.bool false, .int .i64 (0), .int .i64 (0), .nils] := by kernel_rfl
theorem fie31_0 : tField E.P 31 0 = some (0, 4) := by kernel_rfl
theorem fie31_1 : tField E.P 31 1 = some (1, 3) := by kernel_rfl
theorem fie31_2 : tField E.P 31 2 = some (2, 2) := by kernel_rfl
theorem fie31_3 : tField E.P 31 3 = some (3, 29) := by kernel_rfl
theorem pla31 : tPlaces E.P 31 = some [(0, 1), (1, 1), (2, 1), (3, 1)] := by kernel_rfl
theorem siz33 : tSize E.P 33 = some 2 := by kernel_rfl
theorem byt33 : tBytes E.P 33 = some 16 := by kernel_rfl
theorem ptr33 : isPtrT E.P 33 = false := by kernel_rfl
theorem agg33 : tAgg E.P 33 = some true := by kernel_rfl
theorem zer33 : tZero E.P 33 = some [.int .i64 (0), .int .i64 (0)] := by kernel_rfl
theorem ins33 : intStruct E.P 33 = some 2 := by kernel_rfl
theorem fie33_0 : tField E.P 33 0 = some (0, 3) := by kernel_rfl
theorem fie33_1 : tField E.P 33 1 = some (1, 3) := by kernel_rfl
theorem pla33 : tPlaces E.P 33 = some [(0, 1), (1, 1)] := by kernel_rfl
theorem siz35 : tSize E.P 35 = some 4 := by kernel_rfl
theorem byt35 : tBytes E.P 35 = some 32 := by kernel_rfl
theorem ptr35 : isPtrT E.P 35 = false := by kernel_rfl
theorem agg35 : tAgg E.P 35 = some true := by kernel_rfl
theorem zer35 : tZero E.P 35 = some [.int .i64 (0), .int .i64 (0), .int .i64 (0), .int .i64 (0)] := by kernel_rfl
theorem fie35_0 : tField E.P 35 0 = some (0, 33) := by kernel_rfl
theorem fie35_1 : tField E.P 35 1 = some (2, 33) := by kernel_rfl
theorem pla35 : tPlaces E.P 35 = some [(0, 2), (2, 2)] := by kernel_rfl
theorem siz37 : tSize E.P 37 = some 6 := by kernel_rfl
theorem byt37 : tBytes E.P 37 = some 64 := by kernel_rfl
theorem ptr37 : isPtrT E.P 37 = false := by kernel_rfl
theorem agg37 : tAgg E.P 37 = some true := by kernel_rfl
theorem zer37 : tZero E.P 37 = some [.int .i64 (0), .nils, .int .i64 (0), .int .i64 (0), .int .i64 (0), .int .i64 (0)] := by kernel_rfl
theorem fie37_0 : tField E.P 37 0 = some (0, 3) := by kernel_rfl
theorem fie37_1 : tField E.P 37 1 = some (1, 27) := by kernel_rfl
theorem fie37_2 : tField E.P 37 2 = some (2, 35) := by kernel_rfl
theorem pla37 : tPlaces E.P 37 = some [(0, 1), (1, 1), (2, 4)] := by kernel_rfl
theorem und38 : E.P.underlying 38 = some (.pointer 61) := by kernel_rfl
theorem siz38 : tSize E.P 38 = some 1 := by kernel_rfl
theorem byt38 : tBytes E.P 38 = some 8 := by kernel_rfl
theorem ptr38 : isPtrT E.P 38 = true := by kernel_rfl
theorem agg38 : tAgg E.P 38 = some false := by kernel_rfl
theorem zer38 : tZero E.P 38 = some [.nilp] := by kernel_rfl
theorem und42 : E.P.underlying 42 = some (.slice 3) := by kernel_rfl
theorem siz42 : tSize E.P 42 = some 1 := by kernel_rfl
theorem byt42 : tBytes E.P 42 = some 24 := by kernel_rfl
theorem ptr42 : isPtrT E.P 42 = false := by kernel_rfl
theorem agg42 : tAgg E.P 42 = some false := by kernel_rfl
theorem zer42 : tZero E.P 42 = some [.nils] := by kernel_rfl
theorem und46 : E.P.underlying 46 = some (.slice 27) := by kernel_rfl
theorem siz46 : tSize E.P 46 = some 1 := by kernel_rfl
theorem byt46 : tBytes E.P 46 = some 24 := by kernel_rfl
theorem ptr46 : isPtrT E.P 46 = false := by kernel_rfl
theorem agg46 : tAgg E.P 46 = some false := by kernel_rfl
theorem zer46 : tZero E.P 46 = some [.nils] := by kernel_rfl
theorem siz54 : tSize E.P 54 = some 3 := by kernel_rfl
theorem byt54 : tBytes E.P 54 = some 32 := by kernel_rfl
theorem ptr54 : isPtrT E.P 54 = false := by kernel_rfl
theorem agg54 : tAgg E.P 54 = some true := by kernel_rfl
theorem zer54 : tZero E.P 54 = some [.str [], .int .i64 (0), .bool false] := by kernel_rfl
theorem fie54_0 : tField E.P 54 0 = some (0, 9) := by kernel_rfl
theorem fie54_1 : tField E.P 54 1 = some (1, 3) := by kernel_rfl
theorem fie54_2 : tField E.P 54 2 = some (2, 4) := by kernel_rfl
theorem pla54 : tPlaces E.P 54 = some [(0, 1), (1, 1), (2, 1)] := by kernel_rfl
theorem und55 : E.P.underlying 55 = some (.slice 9) := by kernel_rfl
theorem siz55 : tSize E.P 55 = some 1 := by kernel_rfl
theorem byt55 : tBytes E.P 55 = some 24 := by kernel_rfl
theorem ptr55 : isPtrT E.P 55 = false := by kernel_rfl
theorem agg55 : tAgg E.P 55 = some false := by kernel_rfl
theorem zer55 : tZero E.P 55 = some [.nils] := by kernel_rfl
theorem und56 : E.P.underlying 56 = some (.int .u64) := by kernel_rfl
theorem siz56 : tSize E.P 56 = some 1 := by kernel_rfl
theorem byt56 : tBytes E.P 56 = some 8 := by kernel_rfl
theorem ptr56 : isPtrT E.P 56 = false := by kernel_rfl
theorem agg56 : tAgg E.P 56 = some false := by kernel_rfl
theorem zer56 : tZero E.P 56 = some [.int .u64 (0)] := by kernel_rfl
theorem und58 : E.P.underlying 58 = some (.pointer 70) := by kernel_rfl
theorem siz58 : tSize E.P 58 = some 1 := by kernel_rfl
theorem byt58 : tBytes E.P 58 = some 8 := by kernel_rfl
theorem ptr58 : isPtrT E.P 58 = true := by kernel_rfl
theorem agg58 : tAgg E.P 58 = some false := by kernel_rfl
theorem zer58 : tZero E.P 58 = some [.nilp] := by kernel_rfl
theorem und59 : E.P.underlying 59 = some (.slice 35) := by kernel_rfl
theorem siz59 : tSize E.P 59 = some 1 := by kernel_rfl
theorem byt59 : tBytes E.P 59 = some 24 := by kernel_rfl
theorem ptr59 : isPtrT E.P 59 = false := by kernel_rfl
theorem agg59 : tAgg E.P 59 = some false := by kernel_rfl
theorem zer59 : tZero E.P 59 = some [.nils] := by kernel_rfl
theorem siz61 : tSize E.P 61 = some 3 := by kernel_rfl
theorem byt61 : tBytes E.P 61 = some 56 := by kernel_rfl
theorem ptr61 : isPtrT E.P 61 = false := by kernel_rfl
theorem agg61 : tAgg E.P 61 = some true := by kernel_rfl
theorem zer61 : tZero E.P 61 = some [.nilp, .nils, .nils] := by kernel_rfl
theorem fie61_0 : tField E.P 61 0 = some (0, 58) := by kernel_rfl
theorem fie61_1 : tField E.P 61 1 = some (1, 42) := by kernel_rfl
theorem fie61_2 : tField E.P 61 2 = some (2, 59) := by kernel_rfl
theorem pla61 : tPlaces E.P 61 = some [(0, 1), (1, 1), (2, 1)] := by kernel_rfl
theorem und66 : E.P.underlying 66 = some (.slice 92) := by kernel_rfl
theorem siz66 : tSize E.P 66 = some 1 := by kernel_rfl
theorem byt66 : tBytes E.P 66 = some 24 := by kernel_rfl
theorem ptr66 : isPtrT E.P 66 = false := by kernel_rfl
theorem agg66 : tAgg E.P 66 = some false := by kernel_rfl
theorem zer66 : tZero E.P 66 = some [.nils] := by kernel_rfl
theorem siz68 : tSize E.P 68 = some 2 := by kernel_rfl
theorem byt68 : tBytes E.P 68 = some 32 := by kernel_rfl
theorem ptr68 : isPtrT E.P 68 = false := by kernel_rfl
theorem agg68 : tAgg E.P 68 = some true := by kernel_rfl
theorem zer68 : tZero E.P 68 = some [.int .i64 (0), .nils] := by kernel_rfl
theorem fie68_0 : tField E.P 68 0 = some (0, 3) := by kernel_rfl
theorem fie68_1 : tField E.P 68 1 = some (1, 66) := by kernel_rfl
theorem pla68 : tPlaces E.P 68 = some [(0, 1), (1, 1)] := by kernel_rfl
theorem siz70 : tSize E.P 70 = some 4 := by kernel_rfl
theorem byt70 : tBytes E.P 70 = some 80 := by kernel_rfl
theorem ptr70 : isPtrT E.P 70 = false := by kernel_rfl
theorem agg70 : tAgg E.P 70 = some true := by kernel_rfl
theorem zer70 : tZero E.P 70 = some [.int .i64 (0), .nils, .nils, .nils] := by kernel_rfl
theorem fie70_0 : tField E.P 70 0 = some (0, 68) := by kernel_rfl
theorem fie70_1 : tField E.P 70 1 = some (2, 24) := by kernel_rfl
theorem fie70_2 : tField E.P 70 2 = some (3, 46) := by kernel_rfl
theorem pla70 : tPlaces E.P 70 = some [(0, 2), (2, 1), (3, 1)] := by kernel_rfl
theorem siz78 : tSize E.P 78 = some 1 := by kernel_rfl
theorem byt78 : tBytes E.P 78 = some 8 := by kernel_rfl
theorem ptr78 : isPtrT E.P 78 = false := by kernel_rfl
theorem agg78 : tAgg E.P 78 = some false := by kernel_rfl
theorem zer78 : tZero E.P 78 = some [.nilf] := by kernel_rfl
theorem siz87 : tSize E.P 87 = some 1 := by kernel_rfl
theorem byt87 : tBytes E.P 87 = some 8 := by kernel_rfl
theorem ptr87 : isPtrT E.P 87 = false := by kernel_rfl
theorem agg87 : tAgg E.P 87 = some false := by kernel_rfl
theorem zer87 : tZero E.P 87 = some [.nilf] := by kernel_rfl
theorem siz92 : tSize E.P 92 = some 9 := by kernel_rfl
theorem byt92 : tBytes E.P 92 = some 104 := by kernel_rfl
theorem ptr92 : isPtrT E.P 92 = false := by kernel_rfl
theorem agg92 : tAgg E.P 92 = some true := by kernel_rfl
theorem zer92 : tZero E.P 92 = some [.int .i64 (0), .bool false, .int .i64 (0), .int .i64 (0), .nils, .bool false, .int .i64 (0), .int .i64 (0), .nils] := by kernel_rfl
theorem fie92_0 : tField E.P 92 0 = some (0, 3) := by kernel_rfl
theorem fie92_1 : tField E.P 92 1 = some (1, 31) := by kernel_rfl
theorem fie92_2 : tField E.P 92 2 = some (5, 31) := by kernel_rfl
theorem pla92 : tPlaces E.P 92 = some [(0, 1), (1, 4), (5, 4)] := by kernel_rfl
theorem res3 : Try.f3.results.toList = [.tmp 8] := by kernel_rfl
theorem ext3 : E.ext 3 = none := by kernel_rfl
theorem lv3_5 : E.lv 3 5 = [⟨1, []⟩, ⟨2, []⟩, ⟨3, []⟩, ⟨9, []⟩, ⟨10, [(0, 37, 6)]⟩, ⟨11, []⟩] := by kernel_rfl
theorem res4 : Try.f4.results.toList = [.tmp 4] := by kernel_rfl
theorem ext4 : E.ext 4 = none := by kernel_rfl
theorem lv4_4 : E.lv 4 4 = [⟨1, []⟩, ⟨5, []⟩, ⟨6, [(0, 37, 6)]⟩, ⟨7, []⟩, ⟨28, []⟩, ⟨29, []⟩, ⟨30, []⟩] := by kernel_rfl
theorem lv4_9 : E.lv 4 9 = [⟨5, []⟩, ⟨6, []⟩, ⟨7, [(0, 37, 6)]⟩, ⟨48, []⟩, ⟨49, []⟩, ⟨50, []⟩] := by kernel_rfl
theorem lv4_17 : E.lv 4 17 = [⟨6, []⟩, ⟨7, []⟩, ⟨12, []⟩, ⟨85, []⟩, ⟨86, []⟩] := by kernel_rfl
theorem lv4_21 : E.lv 4 21 = [⟨6, []⟩, ⟨7, []⟩, ⟨12, []⟩, ⟨14, []⟩, ⟨85, []⟩, ⟨86, []⟩, ⟨104, []⟩, ⟨105, []⟩] := by kernel_rfl
theorem lv4_28 : E.lv 4 28 = [⟨7, []⟩, ⟨12, []⟩, ⟨16, []⟩, ⟨121, []⟩, ⟨122, []⟩] := by kernel_rfl
theorem lv4_33 : E.lv 4 33 = [⟨7, []⟩, ⟨12, []⟩, ⟨130, []⟩, ⟨131, []⟩] := by kernel_rfl
theorem lv4_39 : E.lv 4 39 = [⟨7, []⟩, ⟨12, []⟩, ⟨19, []⟩, ⟨130, []⟩, ⟨131, []⟩, ⟨153, []⟩, ⟨154, []⟩] := by kernel_rfl
theorem res5 : Try.f5.results.toList = [.cell 2 24] := by kernel_rfl
theorem ext5 : E.ext 5 = none := by kernel_rfl
theorem lv5_4 : E.lv 5 4 = [⟨0, []⟩, ⟨2, []⟩, ⟨3, []⟩, ⟨4, []⟩, ⟨5, []⟩] := by kernel_rfl
theorem res6 : Try.f6.results.toList = [.tmp 4] := by kernel_rfl
theorem ext6 : E.ext 6 = none := by kernel_rfl
theorem lv6_3 : E.lv 6 3 = [⟨1, []⟩, ⟨5, [(0, 31, 4)]⟩, ⟨9, []⟩, ⟨10, []⟩, ⟨11, []⟩] := by kernel_rfl
theorem res7 : Try.f7.results.toList = [.tmp 4, .tmp 5] := by kernel_rfl
theorem ext7 : E.ext 7 = none := by kernel_rfl
theorem lv7_4 : E.lv 7 4 = [⟨1, []⟩, ⟨2, []⟩, ⟨6, []⟩, ⟨7, [(0, 27, 1)]⟩, ⟨14, []⟩, ⟨15, []⟩, ⟨16, []⟩] := by kernel_rfl
theorem res8 : Try.f8.results.toList = [.tmp 0] := by kernel_rfl
theorem ext8 : E.ext 8 = none := by kernel_rfl
theorem res9 : Try.f9.results.toList = [.tmp 2] := by kernel_rfl
theorem ext9 : E.ext 9 = none := by kernel_rfl
theorem res10 : Try.f10.results.toList = [.tmp 2] := by kernel_rfl
theorem ext10 : E.ext 10 = none := by kernel_rfl
theorem lv10_3 : E.lv 10 3 = [⟨3, []⟩, ⟨9, []⟩, ⟨10, []⟩, ⟨11, []⟩] := by kernel_rfl
theorem res11 : Try.f11.results.toList = [.tmp 4] := by kernel_rfl
theorem ext11 : E.ext 11 = none := by kernel_rfl
theorem lv11_3 : E.lv 11 3 = [⟨1, []⟩, ⟨2, []⟩, ⟨5, [(0, 27, 1)]⟩, ⟨6, []⟩] := by kernel_rfl
theorem res12 : Try.f12.results.toList = [.cell 4 37, .tmp 5] := by kernel_rfl
theorem ext12 : E.ext 12 = none := by kernel_rfl
theorem res13 : Try.f13.results.toList = [.tmp 4] := by kernel_rfl
theorem ext13 : E.ext 13 = none := by kernel_rfl
theorem res14 : Try.f14.results.toList = [.tmp 4] := by kernel_rfl
theorem ext14 : E.ext 14 = none := by kernel_rfl
theorem res15 : Try.f15.results.toList = [.cell 4 31] := by kernel_rfl
theorem ext15 : E.ext 15 = none := by kernel_rfl
theorem res16 : Try.f16.results.toList = [.tmp 4, .tmp 5] := by kernel_rfl
theorem ext16 : E.ext 16 = none := by kernel_rfl
theorem res17 : Try.f17.results.toList = [.cell 4 37] := by kernel_rfl
theorem ext17 : E.ext 17 = none := by kernel_rfl
theorem res18 : Try.f18.results.toList = [.tmp 6] := by kernel_rfl
theorem ext18 : E.ext 18 = some (.bx 2 setG) := by kernel_rfl
theorem res19 : Try.f19.results.toList = [.tmp 2] := by kernel_rfl
theorem ext19 : E.ext 19 = some (.fn (cloneF 3 1 8)) := by kernel_rfl
theorem res20 : Try.f20.results.toList = [.tmp 2] := by kernel_rfl
theorem ext20 : E.ext 20 = none := by kernel_rfl
theorem res21 : Try.f21.results.toList = [.tmp 4, .tmp 5] := by kernel_rfl
theorem ext21 : E.ext 21 = none := by kernel_rfl
theorem res22 : Try.f22.results.toList = [.tmp 4] := by kernel_rfl
theorem ext22 : E.ext 22 = none := by kernel_rfl
theorem lv22_4 : E.lv 22 4 = [⟨0, []⟩, ⟨1, []⟩, ⟨5, []⟩] := by kernel_rfl
theorem res23 : Try.f23.results.toList = [.tmp 4] := by kernel_rfl
theorem ext23 : E.ext 23 = none := by kernel_rfl
theorem lv23_2 : E.lv 23 2 = [⟨0, []⟩, ⟨1, []⟩, ⟨7, []⟩, ⟨8, []⟩] := by kernel_rfl
theorem res24 : Try.f24.results.toList = [.tmp 3] := by kernel_rfl
theorem ext24 : E.ext 24 = none := by kernel_rfl
theorem res25 : Try.f25.results.toList = [.tmp 4] := by kernel_rfl
theorem ext25 : E.ext 25 = none := by kernel_rfl
theorem lv25_4 : E.lv 25 4 = [⟨1, []⟩, ⟨14, []⟩, ⟨15, []⟩, ⟨16, []⟩] := by kernel_rfl
theorem res26 : Try.f26.results.toList = [.tmp 2] := by kernel_rfl
theorem ext26 : E.ext 26 = none := by kernel_rfl
theorem lv26_2 : E.lv 26 2 = [⟨1, []⟩, ⟨8, []⟩, ⟨9, []⟩, ⟨10, []⟩] := by kernel_rfl
theorem res27 : Try.f27.results.toList = [.tmp 4] := by kernel_rfl
theorem ext27 : E.ext 27 = none := by kernel_rfl
theorem res28 : Try.f28.results.toList = [.tmp 2] := by kernel_rfl
theorem ext28 : E.ext 28 = some (.fn (cloneF 54 3 32)) := by kernel_rfl
theorem res29 : Try.f29.results.toList = [.tmp 4] := by kernel_rfl
theorem ext29 : E.ext 29 = none := by kernel_rfl
theorem lv29_3 : E.lv 29 3 = [⟨1, []⟩, ⟨5, [(0, 92, 9)]⟩, ⟨13, []⟩, ⟨14, []⟩, ⟨15, []⟩] := by kernel_rfl
theorem lv29_8 : E.lv 29 8 = [⟨1, []⟩, ⟨5, []⟩, ⟨6, []⟩, ⟨9, []⟩, ⟨13, []⟩, ⟨14, []⟩, ⟨15, []⟩, ⟨26, []⟩, ⟨27, []⟩, ⟨28, []⟩] := by kernel_rfl
theorem res30 : Try.f30.results.toList = [.tmp 2] := by kernel_rfl
theorem ext30 : E.ext 30 = none := by kernel_rfl
theorem lv30_3 : E.lv 30 3 = [⟨3, [(0, 27, 1)]⟩, ⟨6, []⟩, ⟨7, []⟩, ⟨8, []⟩] := by kernel_rfl
theorem res31 : Try.f31.results.toList = [.tmp 2] := by kernel_rfl
theorem ext31 : E.ext 31 = none := by kernel_rfl
theorem lv31_3 : E.lv 31 3 = [⟨3, [(0, 31, 4)]⟩, ⟨6, []⟩, ⟨7, []⟩, ⟨8, []⟩] := by kernel_rfl
theorem res32 : Try.f32.results.toList = [.tmp 4] := by kernel_rfl
theorem ext32 : E.ext 32 = none := by kernel_rfl
theorem res33 : Try.f33.results.toList = [.tmp 4] := by kernel_rfl
theorem ext33 : E.ext 33 = none := by kernel_rfl
theorem res34 : Try.f34.results.toList = [.tmp 3] := by kernel_rfl
theorem ext34 : E.ext 34 = none := by kernel_rfl
theorem res35 : Try.f35.results.toList = [.tmp 2] := by kernel_rfl
theorem ext35 : E.ext 35 = none := by kernel_rfl
theorem lv35_2 : E.lv 35 2 = [⟨0, []⟩, ⟨5, []⟩, ⟨6, []⟩] := by kernel_rfl
theorem res36 : Try.f36.results.toList = [.tmp 4] := by kernel_rfl
theorem ext36 : E.ext 36 = none := by kernel_rfl
theorem res37 : Try.f37.results.toList = [.tmp 4] := by kernel_rfl
theorem ext37 : E.ext 37 = none := by kernel_rfl
theorem lv37_2 : E.lv 37 2 = [⟨0, []⟩, ⟨1, []⟩, ⟨7, []⟩, ⟨8, []⟩] := by kernel_rfl
theorem res38 : Try.f38.results.toList = [.cell 4 92] := by kernel_rfl
theorem ext38 : E.ext 38 = none := by kernel_rfl
theorem res39 : Try.f39.results.toList = [.tmp 2] := by kernel_rfl
theorem ext39 : E.ext 39 = some .clip := by kernel_rfl
theorem res40 : Try.f40.results.toList = [.cell 2 31] := by kernel_rfl
theorem ext40 : E.ext 40 = none := by kernel_rfl
theorem res41 : Try.f41.results.toList = [.tmp 2] := by kernel_rfl
theorem ext41 : E.ext 41 = some .clip := by kernel_rfl
theorem res42 : Try.f42.results.toList = [.tmp 2] := by kernel_rfl
theorem ext42 : E.ext 42 = none := by kernel_rfl
theorem res43 : Try.f43.results.toList = [.tmp 4] := by kernel_rfl
theorem ext43 : E.ext 43 = none := by kernel_rfl
theorem lv43_2 : E.lv 43 2 = [⟨0, []⟩, ⟨1, []⟩, ⟨7, []⟩, ⟨8, []⟩] := by kernel_rfl
theorem res44 : Try.f44.results.toList = [.tmp 4] := by kernel_rfl
theorem ext44 : E.ext 44 = none := by kernel_rfl
theorem res45 : Try.f45.results.toList = [.tmp 2] := by kernel_rfl
theorem ext45 : E.ext 45 = some (.fn (cloneF 5 1 1)) := by kernel_rfl
theorem res46 : Try.f46.results.toList = [.tmp 4] := by kernel_rfl
theorem ext46 : E.ext 46 = none := by kernel_rfl
theorem res47 : Try.f47.results.toList = [.tmp 2] := by kernel_rfl
theorem ext47 : E.ext 47 = none := by kernel_rfl
theorem res48 : Try.f48.results.toList = [.tmp 4] := by kernel_rfl
theorem ext48 : E.ext 48 = none := by kernel_rfl
theorem res49 : Try.f49.results.toList = [.tmp 4] := by kernel_rfl
theorem ext49 : E.ext 49 = some (.fn compareF) := by kernel_rfl
theorem res50 : Try.f50.results.toList = [.tmp 2] := by kernel_rfl
theorem ext50 : E.ext 50 = none := by kernel_rfl
theorem res51 : Try.f51.results.toList = [.tmp 2] := by kernel_rfl
theorem ext51 : E.ext 51 = none := by kernel_rfl
theorem vwE (t : TypeId) : E.vw t = false := rfl
attribute [go_sem] vwE
attribute [go_sem] siz1 byt1 ptr1 agg1 zer1 und2 siz2 byt2 ptr2 agg2 zer2 und3 siz3 byt3 ptr3 agg3 zer3 und4 siz4 byt4 ptr4 agg4 zer4 und5 siz5 byt5 ptr5 agg5 zer5 und6 siz6 byt6 ptr6 agg6 zer6 siz8 byt8 ptr8 agg8 zer8
attribute [go_sem] fie8_0 fie8_1 fie8_2 fie8_3 pla8 und9 siz9 byt9 ptr9 agg9 zer9 und22 siz22 byt22 ptr22 agg22 zer22 siz24 byt24 ptr24 agg24 zer24 fie24_0 pla24 und26 siz26 byt26 ptr26 agg26 zer26 und27 siz27 byt27 ptr27 agg27 zer27 und29 siz29 byt29 ptr29
attribute [go_sem] agg29 zer29 siz31 byt31 ptr31 agg31 zer31 fie31_0 fie31_1 fie31_2 fie31_3 pla31 siz33 byt33 ptr33 agg33 zer33 ins33 fie33_0 fie33_1 pla33 siz35 byt35 ptr35 agg35 zer35 fie35_0 fie35_1 pla35 siz37 byt37 ptr37 agg37 zer37 fie37_0 fie37_1 fie37_2 pla37 und38 siz38
attribute [go_sem] byt38 ptr38 agg38 zer38 und42 siz42 byt42 ptr42 agg42 zer42 und46 siz46 byt46 ptr46 agg46 zer46 siz54 byt54 ptr54 agg54 zer54 fie54_0 fie54_1 fie54_2 pla54 und55 siz55 byt55 ptr55 agg55 zer55 und56 siz56 byt56 ptr56 agg56 zer56 und58 siz58 byt58
attribute [go_sem] ptr58 agg58 zer58 und59 siz59 byt59 ptr59 agg59 zer59 siz61 byt61 ptr61 agg61 zer61 fie61_0 fie61_1 fie61_2 pla61 und66 siz66 byt66 ptr66 agg66 zer66 siz68 byt68 ptr68 agg68 zer68 fie68_0 fie68_1 pla68 siz70 byt70 ptr70 agg70 zer70 fie70_0 fie70_1 fie70_2
attribute [go_sem] pla70 siz78 byt78 ptr78 agg78 zer78 siz87 byt87 ptr87 agg87 zer87 siz92 byt92 ptr92 agg92 zer92 fie92_0 fie92_1 fie92_2 pla92 res3 ext3 lv3_5 res4 ext4 lv4_4 lv4_9 lv4_17 lv4_21 lv4_28 lv4_33 lv4_39 res5 ext5 lv5_4 res6 ext6 lv6_3 res7 ext7
attribute [go_sem] lv7_4 res8 ext8 res9 ext9 res10 ext10 lv10_3 res11 ext11 lv11_3 res12 ext12 res13 ext13 res14 ext14 res15 ext15 res16 ext16 res17 ext17 res18 ext18 res19 ext19 res20 ext20 res21 ext21 res22 ext22 lv22_4 res23 ext23 lv23_2 res24 ext24 res25
attribute [go_sem] ext25 lv25_4 res26 ext26 lv26_2 res27 ext27 res28 ext28 res29 ext29 lv29_3 lv29_8 res30 ext30 lv30_3 res31 ext31 lv31_3 res32 ext32 res33 ext33 res34 ext34 res35 ext35 lv35_2 res36 ext36 res37 ext37 lv37_2 res38 ext38 res39 ext39 res40 ext40 res41
attribute [go_sem] ext41 res42 ext42 res43 ext43 lv43_2 res44 ext44 res45 ext45 res46 ext46 res47 ext47 res48 ext48 res49 ext49 res50 ext50 res51 ext51
end Go.Proofs.Ytfgbklmmildakaa.D
