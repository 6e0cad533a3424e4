/- The seat's codes, their regions named; what each region does: rows for simp. -/
import Derived.Test.YtfgbklmmildakaaDenT2
set_option linter.unusedVariables false
set_option linter.defProp false
set_option maxRecDepth 100000
namespace Go.Proofs.Ytfgbklmmildakaa.D
open Go Go.Den Go.Proofs
theorem body3 : Try.f3.body = some (Code.seq (Code.region 0 (R Try.f3 0) false) (Code.seq (Code.region 1 (R Try.f3 1) false) (Code.seq (Code.region 2 (R Try.f3 2) false) (Code.seq (Code.region 3 (R Try.f3 3) false) (Code.seq (Code.seq (Code.region 4 (R Try.f3 4) false) (Code.block 0 (Code.loop (Code.seq (Code.seq (Code.region 5 (R Try.f3 5) false) (Code.cond (.tmp 24) Code.skip (Code.exit 0))) (Code.seq (Code.block 1 (Code.seq (Code.region 7 (R Try.f3 7) false) (Code.seq (Code.region 8 (R Try.f3 8) false) (Code.region 9 (R Try.f3 9) false)))) (Code.region 6 (R Try.f3 6) false)))))) (Code.seq (Code.region 10 (R Try.f3 10) false) (Code.seq (Code.region 11 (R Try.f3 11) false) (Code.seq (Code.seq (Code.region 12 (R Try.f3 12) false) (Code.block 2 (Code.seq (Code.region 13 (R Try.f3 13) false) (Code.cond (.tmp 50) (Code.seq (Code.region 14 (R Try.f3 14) false) (Code.cond (.tmp 53) (Code.seq (Code.region 15 (R Try.f3 15) false) (Code.region 16 (R Try.f3 16) false)) Code.skip)) (Code.seq (Code.region 17 (R Try.f3 17) false) (Code.cond (.tmp 64) (Code.seq (Code.region 18 (R Try.f3 18) false) (Code.region 19 (R Try.f3 19) false)) (Code.seq (Code.region 20 (R Try.f3 20) false) (Code.cond (.tmp 70) (Code.seq (Code.region 21 (R Try.f3 21) false) (Code.cond (.tmp 73) (Code.seq (Code.region 22 (R Try.f3 22) true) (Code.region 23 (R Try.f3 23) false)) Code.skip)) Code.skip)))))))) (Code.seq (Code.region 24 (R Try.f3 24) false) (Code.seq (Code.seq (Code.region 25 (R Try.f3 25) false) (Code.cond (.tmp 101) (Code.seq (Code.region 26 (R Try.f3 26) false) Code.ret) Code.skip)) (Code.seq (Code.region 27 (R Try.f3 27) false) Code.ret))))))))))) := by kernel_rfl
def rg3_0 := (by have h := @rgF' E 3 0 Try.f3 (by kernel_rfl); (conv at h in (light _) => cbv); exact @h : _)
def rg3_1 := (by have h := @rgF' E 3 1 Try.f3 (by kernel_rfl); (conv at h in (light _) => cbv); exact @h : _)
def rg3_2 := (by have h := @rgF' E 3 2 Try.f3 (by kernel_rfl); (conv at h in (light _) => cbv); exact @h : _)
def rg3_3 := (by have h := @rgF' E 3 3 Try.f3 (by kernel_rfl); (conv at h in (light _) => cbv); exact @h : _)
def rg3_4 := (by have h := @rgF' E 3 4 Try.f3 (by kernel_rfl); (conv at h in (light _) => cbv); exact @h : _)
def rg3_5 := (by have h := @rgF' E 3 5 Try.f3 (by kernel_rfl); (conv at h in (light _) => cbv); exact @h : _)
def rg3_7 := (by have h := @rgF' E 3 7 Try.f3 (by kernel_rfl); (conv at h in (light _) => cbv); exact @h : _)
def rg3_8 := (by have h := @rgF' E 3 8 Try.f3 (by kernel_rfl); (conv at h in (light _) => cbv); exact @h : _)
def rg3_9 := (by have h := @rgF' E 3 9 Try.f3 (by kernel_rfl); (conv at h in (light _) => cbv); exact @h : _)
def rg3_6 := (by have h := @rgF' E 3 6 Try.f3 (by kernel_rfl); (conv at h in (light _) => cbv); exact @h : _)
def rg3_10 := (by have h := @rgF' E 3 10 Try.f3 (by kernel_rfl); (conv at h in (light _) => cbv); exact @h : _)
def rg3_11 := (by have h := @rgF' E 3 11 Try.f3 (by kernel_rfl); (conv at h in (light _) => cbv); exact @h : _)
def rg3_12 := (by have h := @rgF' E 3 12 Try.f3 (by kernel_rfl); (conv at h in (light _) => cbv); exact @h : _)
def rg3_13 := (by have h := @rgF' E 3 13 Try.f3 (by kernel_rfl); (conv at h in (light _) => cbv); exact @h : _)
def rg3_14 := (by have h := @rgF' E 3 14 Try.f3 (by kernel_rfl); (conv at h in (light _) => cbv); exact @h : _)
def rg3_15 := (by have h := @rgF' E 3 15 Try.f3 (by kernel_rfl); (conv at h in (light _) => cbv); exact @h : _)
def rg3_16 := (by have h := @rgF' E 3 16 Try.f3 (by kernel_rfl); (conv at h in (light _) => cbv); exact @h : _)
def rg3_17 := (by have h := @rgF' E 3 17 Try.f3 (by kernel_rfl); (conv at h in (light _) => cbv); exact @h : _)
def rg3_18 := (by have h := @rgF' E 3 18 Try.f3 (by kernel_rfl); (conv at h in (light _) => cbv); exact @h : _)
def rg3_19 := (by have h := @rgF' E 3 19 Try.f3 (by kernel_rfl); (conv at h in (light _) => cbv); exact @h : _)
def rg3_20 := (by have h := @rgF' E 3 20 Try.f3 (by kernel_rfl); (conv at h in (light _) => cbv); exact @h : _)
def rg3_21 := (by have h := @rgF' E 3 21 Try.f3 (by kernel_rfl); (conv at h in (light _) => cbv); exact @h : _)
def rg3_22 := (by have h := @rgT' E 3 22 Try.f3 (by kernel_rfl); (conv at h in (light _) => cbv); exact @h : _)
def rg3_23 := (by have h := @rgF' E 3 23 Try.f3 (by kernel_rfl); (conv at h in (light _) => cbv); exact @h : _)
def rg3_24 := (by have h := @rgF' E 3 24 Try.f3 (by kernel_rfl); (conv at h in (light _) => cbv); exact @h : _)
def rg3_25 := (by have h := @rgF' E 3 25 Try.f3 (by kernel_rfl); (conv at h in (light _) => cbv); exact @h : _)
def rg3_26 := (by have h := @rgF' E 3 26 Try.f3 (by kernel_rfl); (conv at h in (light _) => cbv); exact @h : _)
def rg3_27 := (by have h := @rgF' E 3 27 Try.f3 (by kernel_rfl); (conv at h in (light _) => cbv); exact @h : _)
attribute [go_sem] rg3_0 rg3_1 rg3_2 rg3_3 rg3_4 rg3_5 rg3_7 rg3_8 rg3_9 rg3_6 rg3_10 rg3_11 rg3_12 rg3_13 rg3_14 rg3_15 rg3_16 rg3_17 rg3_18 rg3_19 rg3_20 rg3_21 rg3_22 rg3_23 rg3_24 rg3_25 rg3_26 rg3_27
theorem body4 : Try.f4.body = some (Code.seq (Code.region 0 (R Try.f4 0) false) (Code.seq (Code.region 1 (R Try.f4 1) false) (Code.seq (Code.region 2 (R Try.f4 2) false) (Code.seq (Code.seq (Code.region 3 (R Try.f4 3) false) (Code.block 0 (Code.loop (Code.seq (Code.region 4 (R Try.f4 4) false) (Code.seq (Code.cond (.tmp 31) Code.skip (Code.exit 0)) (Code.seq (Code.block 1 (Code.seq (Code.region 5 (R Try.f4 5) false) (Code.region 6 (R Try.f4 6) false))) (Code.region 7 (R Try.f4 7) false))))))) (Code.seq (Code.seq (Code.region 8 (R Try.f4 8) false) (Code.block 2 (Code.loop (Code.seq (Code.region 9 (R Try.f4 9) false) (Code.seq (Code.cond (.tmp 51) Code.skip (Code.exit 2)) (Code.seq (Code.block 3 (Code.seq (Code.region 10 (R Try.f4 10) false) (Code.region 11 (R Try.f4 11) false))) (Code.region 12 (R Try.f4 12) false))))))) (Code.seq (Code.region 13 (R Try.f4 13) false) (Code.seq (Code.seq (Code.region 14 (R Try.f4 14) false) (Code.cond (.tmp 77) (Code.seq (Code.region 15 (R Try.f4 15) false) Code.ret) Code.skip)) (Code.seq (Code.seq (Code.region 16 (R Try.f4 16) false) (Code.block 4 (Code.loop (Code.seq (Code.region 17 (R Try.f4 17) false) (Code.seq (Code.cond (.tmp 87) Code.skip (Code.exit 4)) (Code.seq (Code.block 5 (Code.seq (Code.region 18 (R Try.f4 18) false) (Code.seq (Code.region 19 (R Try.f4 19) false) (Code.seq (Code.region 20 (R Try.f4 20) false) (Code.block 6 (Code.loop (Code.seq (Code.region 21 (R Try.f4 21) false) (Code.seq (Code.cond (.tmp 106) Code.skip (Code.exit 6)) (Code.seq (Code.block 7 (Code.seq (Code.region 22 (R Try.f4 22) false) (Code.region 23 (R Try.f4 23) false))) (Code.region 24 (R Try.f4 24) false)))))))))) (Code.region 25 (R Try.f4 25) false))))))) (Code.seq (Code.region 26 (R Try.f4 26) false) (Code.seq (Code.seq (Code.region 27 (R Try.f4 27) false) (Code.block 8 (Code.loop (Code.seq (Code.region 28 (R Try.f4 28) false) (Code.seq (Code.cond (.tmp 123) Code.skip (Code.exit 8)) (Code.seq (Code.block 9 (Code.seq (Code.region 29 (R Try.f4 29) false) (Code.region 30 (R Try.f4 30) false))) (Code.region 31 (R Try.f4 31) false))))))) (Code.seq (Code.seq (Code.region 32 (R Try.f4 32) false) (Code.block 10 (Code.loop (Code.seq (Code.region 33 (R Try.f4 33) false) (Code.seq (Code.cond (.tmp 132) Code.skip (Code.exit 10)) (Code.seq (Code.block 11 (Code.seq (Code.region 34 (R Try.f4 34) false) (Code.seq (Code.region 35 (R Try.f4 35) false) (Code.seq (Code.seq (Code.region 36 (R Try.f4 36) true) (Code.cond (.tmp 150) (Code.seq (Code.region 37 (R Try.f4 37) false) Code.ret) Code.skip)) (Code.seq (Code.region 38 (R Try.f4 38) false) (Code.block 12 (Code.loop (Code.seq (Code.region 39 (R Try.f4 39) false) (Code.seq (Code.cond (.tmp 155) Code.skip (Code.exit 12)) (Code.seq (Code.block 13 (Code.seq (Code.region 40 (R Try.f4 40) false) (Code.region 41 (R Try.f4 41) false))) (Code.region 42 (R Try.f4 42) false))))))))))) (Code.region 43 (R Try.f4 43) false))))))) (Code.seq (Code.region 44 (R Try.f4 44) false) (Code.seq (Code.region 45 (R Try.f4 45) true) Code.ret))))))))))))) := by kernel_rfl
def rg4_0 := (by have h := @rgF' E 4 0 Try.f4 (by kernel_rfl); (conv at h in (light _) => cbv); exact @h : _)
def rg4_1 := (by have h := @rgF' E 4 1 Try.f4 (by kernel_rfl); (conv at h in (light _) => cbv); exact @h : _)
def rg4_2 := (by have h := @rgF' E 4 2 Try.f4 (by kernel_rfl); (conv at h in (light _) => cbv); exact @h : _)
def rg4_3 := (by have h := @rgF' E 4 3 Try.f4 (by kernel_rfl); (conv at h in (light _) => cbv); exact @h : _)
def rg4_4 := (by have h := @rgF' E 4 4 Try.f4 (by kernel_rfl); (conv at h in (light _) => cbv); exact @h : _)
def rg4_5 := (by have h := @rgF' E 4 5 Try.f4 (by kernel_rfl); (conv at h in (light _) => cbv); exact @h : _)
def rg4_6 := (by have h := @rgF' E 4 6 Try.f4 (by kernel_rfl); (conv at h in (light _) => cbv); exact @h : _)
def rg4_7 := (by have h := @rgF' E 4 7 Try.f4 (by kernel_rfl); (conv at h in (light _) => cbv); exact @h : _)
def rg4_8 := (by have h := @rgF' E 4 8 Try.f4 (by kernel_rfl); (conv at h in (light _) => cbv); exact @h : _)
def rg4_9 := (by have h := @rgF' E 4 9 Try.f4 (by kernel_rfl); (conv at h in (light _) => cbv); exact @h : _)
def rg4_10 := (by have h := @rgF' E 4 10 Try.f4 (by kernel_rfl); (conv at h in (light _) => cbv); exact @h : _)
def rg4_11 := (by have h := @rgF' E 4 11 Try.f4 (by kernel_rfl); (conv at h in (light _) => cbv); exact @h : _)
def rg4_12 := (by have h := @rgF' E 4 12 Try.f4 (by kernel_rfl); (conv at h in (light _) => cbv); exact @h : _)
def rg4_13 := (by have h := @rgF' E 4 13 Try.f4 (by kernel_rfl); (conv at h in (light _) => cbv); exact @h : _)
def rg4_14 := (by have h := @rgF' E 4 14 Try.f4 (by kernel_rfl); (conv at h in (light _) => cbv); exact @h : _)
def rg4_15 := (by have h := @rgF' E 4 15 Try.f4 (by kernel_rfl); (conv at h in (light _) => cbv); exact @h : _)
def rg4_16 := (by have h := @rgF' E 4 16 Try.f4 (by kernel_rfl); (conv at h in (light _) => cbv); exact @h : _)
def rg4_17 := (by have h := @rgF' E 4 17 Try.f4 (by kernel_rfl); (conv at h in (light _) => cbv); exact @h : _)
def rg4_18 := (by have h := @rgF' E 4 18 Try.f4 (by kernel_rfl); (conv at h in (light _) => cbv); exact @h : _)
def rg4_19 := (by have h := @rgF' E 4 19 Try.f4 (by kernel_rfl); (conv at h in (light _) => cbv); exact @h : _)
def rg4_20 := (by have h := @rgF' E 4 20 Try.f4 (by kernel_rfl); (conv at h in (light _) => cbv); exact @h : _)
def rg4_21 := (by have h := @rgF' E 4 21 Try.f4 (by kernel_rfl); (conv at h in (light _) => cbv); exact @h : _)
def rg4_22 := (by have h := @rgF' E 4 22 Try.f4 (by kernel_rfl); (conv at h in (light _) => cbv); exact @h : _)
def rg4_23 := (by have h := @rgF' E 4 23 Try.f4 (by kernel_rfl); (conv at h in (light _) => cbv); exact @h : _)
def rg4_24 := (by have h := @rgF' E 4 24 Try.f4 (by kernel_rfl); (conv at h in (light _) => cbv); exact @h : _)
def rg4_25 := (by have h := @rgF' E 4 25 Try.f4 (by kernel_rfl); (conv at h in (light _) => cbv); exact @h : _)
def rg4_26 := (by have h := @rgF' E 4 26 Try.f4 (by kernel_rfl); (conv at h in (light _) => cbv); exact @h : _)
def rg4_27 := (by have h := @rgF' E 4 27 Try.f4 (by kernel_rfl); (conv at h in (light _) => cbv); exact @h : _)
def rg4_28 := (by have h := @rgF' E 4 28 Try.f4 (by kernel_rfl); (conv at h in (light _) => cbv); exact @h : _)
def rg4_29 := (by have h := @rgF' E 4 29 Try.f4 (by kernel_rfl); (conv at h in (light _) => cbv); exact @h : _)
def rg4_30 := (by have h := @rgF' E 4 30 Try.f4 (by kernel_rfl); (conv at h in (light _) => cbv); exact @h : _)
def rg4_31 := (by have h := @rgF' E 4 31 Try.f4 (by kernel_rfl); (conv at h in (light _) => cbv); exact @h : _)
def rg4_32 := (by have h := @rgF' E 4 32 Try.f4 (by kernel_rfl); (conv at h in (light _) => cbv); exact @h : _)
def rg4_33 := (by have h := @rgF' E 4 33 Try.f4 (by kernel_rfl); (conv at h in (light _) => cbv); exact @h : _)
def rg4_34 := (by have h := @rgF' E 4 34 Try.f4 (by kernel_rfl); (conv at h in (light _) => cbv); exact @h : _)
def rg4_35 := (by have h := @rgF' E 4 35 Try.f4 (by kernel_rfl); (conv at h in (light _) => cbv); exact @h : _)
def rg4_36 := (by have h := @rgT' E 4 36 Try.f4 (by kernel_rfl); (conv at h in (light _) => cbv); exact @h : _)
def rg4_37 := (by have h := @rgF' E 4 37 Try.f4 (by kernel_rfl); (conv at h in (light _) => cbv); exact @h : _)
def rg4_38 := (by have h := @rgF' E 4 38 Try.f4 (by kernel_rfl); (conv at h in (light _) => cbv); exact @h : _)
def rg4_39 := (by have h := @rgF' E 4 39 Try.f4 (by kernel_rfl); (conv at h in (light _) => cbv); exact @h : _)
def rg4_40 := (by have h := @rgF' E 4 40 Try.f4 (by kernel_rfl); (conv at h in (light _) => cbv); exact @h : _)
def rg4_41 := (by have h := @rgF' E 4 41 Try.f4 (by kernel_rfl); (conv at h in (light _) => cbv); exact @h : _)
def rg4_42 := (by have h := @rgF' E 4 42 Try.f4 (by kernel_rfl); (conv at h in (light _) => cbv); exact @h : _)
def rg4_43 := (by have h := @rgF' E 4 43 Try.f4 (by kernel_rfl); (conv at h in (light _) => cbv); exact @h : _)
def rg4_44 := (by have h := @rgF' E 4 44 Try.f4 (by kernel_rfl); (conv at h in (light _) => cbv); exact @h : _)
def rg4_45 := (by have h := @rgT' E 4 45 Try.f4 (by kernel_rfl); (conv at h in (light _) => cbv); exact @h : _)
attribute [go_sem] rg4_0 rg4_1 rg4_2 rg4_3 rg4_4 rg4_5 rg4_6 rg4_7 rg4_8 rg4_9 rg4_10 rg4_11 rg4_12 rg4_13 rg4_14 rg4_15 rg4_16 rg4_17 rg4_18 rg4_19 rg4_20 rg4_21 rg4_22 rg4_23 rg4_24 rg4_25 rg4_26 rg4_27 rg4_28 rg4_29 rg4_30 rg4_31 rg4_32 rg4_33 rg4_34 rg4_35 rg4_36 rg4_37 rg4_38 rg4_39 rg4_40 rg4_41 rg4_42 rg4_43 rg4_44 rg4_45
theorem body5 : Try.f5.body = some (Code.seq (Code.region 0 (R Try.f5 0) false) (Code.seq (Code.region 1 (R Try.f5 1) false) (Code.seq (Code.region 2 (R Try.f5 2) false) (Code.seq (Code.seq (Code.region 3 (R Try.f5 3) false) (Code.block 0 (Code.loop (Code.seq (Code.seq (Code.region 4 (R Try.f5 4) false) (Code.cond (.tmp 18) Code.skip (Code.exit 0))) (Code.seq (Code.block 1 (Code.region 6 (R Try.f5 6) true)) (Code.region 5 (R Try.f5 5) false)))))) (Code.seq (Code.region 7 (R Try.f5 7) false) Code.ret))))) := by kernel_rfl
def rg5_0 := (by have h := @rgF' E 5 0 Try.f5 (by kernel_rfl); (conv at h in (light _) => cbv); exact @h : _)
def rg5_1 := (by have h := @rgF' E 5 1 Try.f5 (by kernel_rfl); (conv at h in (light _) => cbv); exact @h : _)
def rg5_2 := (by have h := @rgF' E 5 2 Try.f5 (by kernel_rfl); (conv at h in (light _) => cbv); exact @h : _)
def rg5_3 := (by have h := @rgF' E 5 3 Try.f5 (by kernel_rfl); (conv at h in (light _) => cbv); exact @h : _)
def rg5_4 := (by have h := @rgF' E 5 4 Try.f5 (by kernel_rfl); (conv at h in (light _) => cbv); exact @h : _)
def rg5_6 := (by have h := @rgT' E 5 6 Try.f5 (by kernel_rfl); (conv at h in (light _) => cbv); exact @h : _)
def rg5_5 := (by have h := @rgF' E 5 5 Try.f5 (by kernel_rfl); (conv at h in (light _) => cbv); exact @h : _)
def rg5_7 := (by have h := @rgF' E 5 7 Try.f5 (by kernel_rfl); (conv at h in (light _) => cbv); exact @h : _)
attribute [go_sem] rg5_0 rg5_1 rg5_2 rg5_3 rg5_4 rg5_6 rg5_5 rg5_7
theorem body6 : Try.f6.body = some (Code.seq (Code.region 0 (R Try.f6 0) false) (Code.seq (Code.region 1 (R Try.f6 1) false) (Code.seq (Code.seq (Code.region 2 (R Try.f6 2) false) (Code.block 0 (Code.loop (Code.seq (Code.region 3 (R Try.f6 3) false) (Code.seq (Code.cond (.tmp 12) Code.skip (Code.exit 0)) (Code.seq (Code.block 1 (Code.seq (Code.region 4 (R Try.f6 4) false) (Code.seq (Code.seq (Code.region 5 (R Try.f6 5) false) (Code.cond (.tmp 17) (Code.seq (Code.region 6 (R Try.f6 6) false) (Code.exit 1)) Code.skip)) (Code.region 7 (R Try.f6 7) false)))) (Code.region 8 (R Try.f6 8) false))))))) (Code.seq (Code.region 9 (R Try.f6 9) false) Code.ret)))) := by kernel_rfl
def rg6_0 := (by have h := @rgF' E 6 0 Try.f6 (by kernel_rfl); (conv at h in (light _) => cbv); exact @h : _)
def rg6_1 := (by have h := @rgF' E 6 1 Try.f6 (by kernel_rfl); (conv at h in (light _) => cbv); exact @h : _)
def rg6_2 := (by have h := @rgF' E 6 2 Try.f6 (by kernel_rfl); (conv at h in (light _) => cbv); exact @h : _)
def rg6_3 := (by have h := @rgF' E 6 3 Try.f6 (by kernel_rfl); (conv at h in (light _) => cbv); exact @h : _)
def rg6_4 := (by have h := @rgF' E 6 4 Try.f6 (by kernel_rfl); (conv at h in (light _) => cbv); exact @h : _)
def rg6_5 := (by have h := @rgF' E 6 5 Try.f6 (by kernel_rfl); (conv at h in (light _) => cbv); exact @h : _)
def rg6_6 := (by have h := @rgF' E 6 6 Try.f6 (by kernel_rfl); (conv at h in (light _) => cbv); exact @h : _)
def rg6_7 := (by have h := @rgF' E 6 7 Try.f6 (by kernel_rfl); (conv at h in (light _) => cbv); exact @h : _)
def rg6_8 := (by have h := @rgF' E 6 8 Try.f6 (by kernel_rfl); (conv at h in (light _) => cbv); exact @h : _)
def rg6_9 := (by have h := @rgF' E 6 9 Try.f6 (by kernel_rfl); (conv at h in (light _) => cbv); exact @h : _)
attribute [go_sem] rg6_0 rg6_1 rg6_2 rg6_3 rg6_4 rg6_5 rg6_6 rg6_7 rg6_8 rg6_9
theorem body7 : Try.f7.body = some (Code.seq (Code.region 0 (R Try.f7 0) false) (Code.seq (Code.region 1 (R Try.f7 1) false) (Code.seq (Code.region 2 (R Try.f7 2) false) (Code.seq (Code.seq (Code.region 3 (R Try.f7 3) false) (Code.block 0 (Code.loop (Code.seq (Code.region 4 (R Try.f7 4) false) (Code.seq (Code.cond (.tmp 17) Code.skip (Code.exit 0)) (Code.seq (Code.block 1 (Code.seq (Code.region 5 (R Try.f7 5) false) (Code.seq (Code.seq (Code.region 6 (R Try.f7 6) true) (Code.cond (.tmp 33) (Code.seq (Code.region 7 (R Try.f7 7) false) Code.ret) Code.skip)) (Code.seq (Code.region 8 (R Try.f7 8) false) (Code.region 9 (R Try.f7 9) true))))) (Code.region 10 (R Try.f7 10) false))))))) (Code.seq (Code.region 11 (R Try.f7 11) false) (Code.seq (Code.seq (Code.region 12 (R Try.f7 12) false) (Code.cond (.tmp 69) (Code.seq (Code.region 13 (R Try.f7 13) false) Code.ret) Code.skip)) (Code.seq (Code.region 14 (R Try.f7 14) false) (Code.seq (Code.region 15 (R Try.f7 15) false) Code.ret)))))))) := by kernel_rfl
def rg7_0 := (by have h := @rgF' E 7 0 Try.f7 (by kernel_rfl); (conv at h in (light _) => cbv); exact @h : _)
def rg7_1 := (by have h := @rgF' E 7 1 Try.f7 (by kernel_rfl); (conv at h in (light _) => cbv); exact @h : _)
def rg7_2 := (by have h := @rgF' E 7 2 Try.f7 (by kernel_rfl); (conv at h in (light _) => cbv); exact @h : _)
def rg7_3 := (by have h := @rgF' E 7 3 Try.f7 (by kernel_rfl); (conv at h in (light _) => cbv); exact @h : _)
def rg7_4 := (by have h := @rgF' E 7 4 Try.f7 (by kernel_rfl); (conv at h in (light _) => cbv); exact @h : _)
def rg7_5 := (by have h := @rgF' E 7 5 Try.f7 (by kernel_rfl); (conv at h in (light _) => cbv); exact @h : _)
def rg7_6 := (by have h := @rgT' E 7 6 Try.f7 (by kernel_rfl); (conv at h in (light _) => cbv); exact @h : _)
def rg7_7 := (by have h := @rgF' E 7 7 Try.f7 (by kernel_rfl); (conv at h in (light _) => cbv); exact @h : _)
def rg7_8 := (by have h := @rgF' E 7 8 Try.f7 (by kernel_rfl); (conv at h in (light _) => cbv); exact @h : _)
def rg7_9 := (by have h := @rgT' E 7 9 Try.f7 (by kernel_rfl); (conv at h in (light _) => cbv); exact @h : _)
def rg7_10 := (by have h := @rgF' E 7 10 Try.f7 (by kernel_rfl); (conv at h in (light _) => cbv); exact @h : _)
def rg7_11 := (by have h := @rgF' E 7 11 Try.f7 (by kernel_rfl); (conv at h in (light _) => cbv); exact @h : _)
def rg7_12 := (by have h := @rgF' E 7 12 Try.f7 (by kernel_rfl); (conv at h in (light _) => cbv); exact @h : _)
def rg7_13 := (by have h := @rgF' E 7 13 Try.f7 (by kernel_rfl); (conv at h in (light _) => cbv); exact @h : _)
def rg7_14 := (by have h := @rgF' E 7 14 Try.f7 (by kernel_rfl); (conv at h in (light _) => cbv); exact @h : _)
def rg7_15 := (by have h := @rgF' E 7 15 Try.f7 (by kernel_rfl); (conv at h in (light _) => cbv); exact @h : _)
attribute [go_sem] rg7_0 rg7_1 rg7_2 rg7_3 rg7_4 rg7_5 rg7_6 rg7_7 rg7_8 rg7_9 rg7_10 rg7_11 rg7_12 rg7_13 rg7_14 rg7_15
theorem body8 : Try.f8.body = some (Code.seq (Code.region 0 (R Try.f8 0) false) (Code.seq (Code.region 1 (R Try.f8 1) false) (Code.seq (Code.region 2 (R Try.f8 2) false) (Code.seq (Code.region 3 (R Try.f8 3) true) (Code.seq (Code.region 4 (R Try.f8 4) true) (Code.seq (Code.seq (Code.region 5 (R Try.f8 5) false) (Code.cond (.tmp 46) (Code.seq (Code.region 6 (R Try.f8 6) false) Code.ret) Code.skip)) (Code.seq (Code.region 7 (R Try.f8 7) false) (Code.seq (Code.region 8 (R Try.f8 8) false) (Code.seq (Code.region 9 (R Try.f8 9) false) (Code.seq (Code.region 10 (R Try.f8 10) false) Code.ret)))))))))) := by kernel_rfl
def rg8_0 := (by have h := @rgF' E 8 0 Try.f8 (by kernel_rfl); (conv at h in (light _) => cbv); exact @h : _)
def rg8_1 := (by have h := @rgF' E 8 1 Try.f8 (by kernel_rfl); (conv at h in (light _) => cbv); exact @h : _)
def rg8_2 := (by have h := @rgF' E 8 2 Try.f8 (by kernel_rfl); (conv at h in (light _) => cbv); exact @h : _)
def rg8_3 := (by have h := @rgT' E 8 3 Try.f8 (by kernel_rfl); (conv at h in (light _) => cbv); exact @h : _)
def rg8_4 := (by have h := @rgT' E 8 4 Try.f8 (by kernel_rfl); (conv at h in (light _) => cbv); exact @h : _)
def rg8_5 := (by have h := @rgF' E 8 5 Try.f8 (by kernel_rfl); (conv at h in (light _) => cbv); exact @h : _)
def rg8_6 := (by have h := @rgF' E 8 6 Try.f8 (by kernel_rfl); (conv at h in (light _) => cbv); exact @h : _)
def rg8_7 := (by have h := @rgF' E 8 7 Try.f8 (by kernel_rfl); (conv at h in (light _) => cbv); exact @h : _)
def rg8_8 := (by have h := @rgF' E 8 8 Try.f8 (by kernel_rfl); (conv at h in (light _) => cbv); exact @h : _)
def rg8_9 := (by have h := @rgF' E 8 9 Try.f8 (by kernel_rfl); (conv at h in (light _) => cbv); exact @h : _)
def rg8_10 := (by have h := @rgF' E 8 10 Try.f8 (by kernel_rfl); (conv at h in (light _) => cbv); exact @h : _)
attribute [go_sem] rg8_0 rg8_1 rg8_2 rg8_3 rg8_4 rg8_5 rg8_6 rg8_7 rg8_8 rg8_9 rg8_10
theorem body9 : Try.f9.body = some (Code.seq (Code.region 0 (R Try.f9 0) false) (Code.seq (Code.region 1 (R Try.f9 1) false) Code.ret)) := by kernel_rfl
def rg9_0 := (by have h := @rgF' E 9 0 Try.f9 (by kernel_rfl); (conv at h in (light _) => cbv); exact @h : _)
def rg9_1 := (by have h := @rgF' E 9 1 Try.f9 (by kernel_rfl); (conv at h in (light _) => cbv); exact @h : _)
attribute [go_sem] rg9_0 rg9_1
theorem body10 : Try.f10.body = some (Code.seq (Code.region 0 (R Try.f10 0) false) (Code.seq (Code.region 1 (R Try.f10 1) false) (Code.seq (Code.seq (Code.region 2 (R Try.f10 2) false) (Code.block 0 (Code.loop (Code.seq (Code.region 3 (R Try.f10 3) false) (Code.seq (Code.cond (.tmp 12) Code.skip (Code.exit 0)) (Code.seq (Code.block 1 (Code.seq (Code.region 4 (R Try.f10 4) false) (Code.seq (Code.region 5 (R Try.f10 5) false) (Code.cond (.tmp 17) (Code.region 6 (R Try.f10 6) false) Code.skip)))) (Code.region 7 (R Try.f10 7) false))))))) (Code.seq (Code.region 8 (R Try.f10 8) false) Code.ret)))) := by kernel_rfl
def rg10_0 := (by have h := @rgF' E 10 0 Try.f10 (by kernel_rfl); (conv at h in (light _) => cbv); exact @h : _)
def rg10_1 := (by have h := @rgF' E 10 1 Try.f10 (by kernel_rfl); (conv at h in (light _) => cbv); exact @h : _)
def rg10_2 := (by have h := @rgF' E 10 2 Try.f10 (by kernel_rfl); (conv at h in (light _) => cbv); exact @h : _)
def rg10_3 := (by have h := @rgF' E 10 3 Try.f10 (by kernel_rfl); (conv at h in (light _) => cbv); exact @h : _)
def rg10_4 := (by have h := @rgF' E 10 4 Try.f10 (by kernel_rfl); (conv at h in (light _) => cbv); exact @h : _)
def rg10_5 := (by have h := @rgF' E 10 5 Try.f10 (by kernel_rfl); (conv at h in (light _) => cbv); exact @h : _)
def rg10_6 := (by have h := @rgF' E 10 6 Try.f10 (by kernel_rfl); (conv at h in (light _) => cbv); exact @h : _)
def rg10_7 := (by have h := @rgF' E 10 7 Try.f10 (by kernel_rfl); (conv at h in (light _) => cbv); exact @h : _)
def rg10_8 := (by have h := @rgF' E 10 8 Try.f10 (by kernel_rfl); (conv at h in (light _) => cbv); exact @h : _)
attribute [go_sem] rg10_0 rg10_1 rg10_2 rg10_3 rg10_4 rg10_5 rg10_6 rg10_7 rg10_8
theorem body11 : Try.f11.body = some (Code.seq (Code.region 0 (R Try.f11 0) false) (Code.seq (Code.region 1 (R Try.f11 1) false) (Code.seq (Code.seq (Code.region 2 (R Try.f11 2) false) (Code.block 0 (Code.loop (Code.seq (Code.seq (Code.region 3 (R Try.f11 3) false) (Code.cond (.tmp 15) Code.skip (Code.exit 0))) (Code.seq (Code.block 1 (Code.seq (Code.region 5 (R Try.f11 5) true) (Code.seq (Code.region 6 (R Try.f11 6) false) (Code.region 7 (R Try.f11 7) false)))) (Code.region 4 (R Try.f11 4) false)))))) (Code.seq (Code.region 8 (R Try.f11 8) false) Code.ret)))) := by kernel_rfl
def rg11_0 := (by have h := @rgF' E 11 0 Try.f11 (by kernel_rfl); (conv at h in (light _) => cbv); exact @h : _)
def rg11_1 := (by have h := @rgF' E 11 1 Try.f11 (by kernel_rfl); (conv at h in (light _) => cbv); exact @h : _)
def rg11_2 := (by have h := @rgF' E 11 2 Try.f11 (by kernel_rfl); (conv at h in (light _) => cbv); exact @h : _)
def rg11_3 := (by have h := @rgF' E 11 3 Try.f11 (by kernel_rfl); (conv at h in (light _) => cbv); exact @h : _)
def rg11_5 := (by have h := @rgT' E 11 5 Try.f11 (by kernel_rfl); (conv at h in (light _) => cbv); exact @h : _)
def rg11_6 := (by have h := @rgF' E 11 6 Try.f11 (by kernel_rfl); (conv at h in (light _) => cbv); exact @h : _)
def rg11_7 := (by have h := @rgF' E 11 7 Try.f11 (by kernel_rfl); (conv at h in (light _) => cbv); exact @h : _)
def rg11_4 := (by have h := @rgF' E 11 4 Try.f11 (by kernel_rfl); (conv at h in (light _) => cbv); exact @h : _)
def rg11_8 := (by have h := @rgF' E 11 8 Try.f11 (by kernel_rfl); (conv at h in (light _) => cbv); exact @h : _)
attribute [go_sem] rg11_0 rg11_1 rg11_2 rg11_3 rg11_5 rg11_6 rg11_7 rg11_4 rg11_8
theorem body12 : Try.f12.body = some (Code.seq (Code.region 0 (R Try.f12 0) false) (Code.seq (Code.region 1 (R Try.f12 1) false) (Code.seq (Code.seq (Code.region 2 (R Try.f12 2) false) (Code.cond (.tmp 18) (Code.seq (Code.region 3 (R Try.f12 3) false) Code.ret) Code.skip)) (Code.seq (Code.region 4 (R Try.f12 4) true) Code.ret)))) := by kernel_rfl
def rg12_0 := (by have h := @rgF' E 12 0 Try.f12 (by kernel_rfl); (conv at h in (light _) => cbv); exact @h : _)
def rg12_1 := (by have h := @rgF' E 12 1 Try.f12 (by kernel_rfl); (conv at h in (light _) => cbv); exact @h : _)
def rg12_2 := (by have h := @rgF' E 12 2 Try.f12 (by kernel_rfl); (conv at h in (light _) => cbv); exact @h : _)
def rg12_3 := (by have h := @rgF' E 12 3 Try.f12 (by kernel_rfl); (conv at h in (light _) => cbv); exact @h : _)
def rg12_4 := (by have h := @rgT' E 12 4 Try.f12 (by kernel_rfl); (conv at h in (light _) => cbv); exact @h : _)
attribute [go_sem] rg12_0 rg12_1 rg12_2 rg12_3 rg12_4
theorem body13 : Try.f13.body = some (Code.seq (Code.region 0 (R Try.f13 0) false) (Code.seq (Code.region 1 (R Try.f13 1) false) Code.ret)) := by kernel_rfl
def rg13_0 := (by have h := @rgF' E 13 0 Try.f13 (by kernel_rfl); (conv at h in (light _) => cbv); exact @h : _)
def rg13_1 := (by have h := @rgF' E 13 1 Try.f13 (by kernel_rfl); (conv at h in (light _) => cbv); exact @h : _)
attribute [go_sem] rg13_0 rg13_1
theorem body14 : Try.f14.body = some (Code.seq (Code.region 0 (R Try.f14 0) false) (Code.seq (Code.region 1 (R Try.f14 1) false) Code.ret)) := by kernel_rfl
def rg14_0 := (by have h := @rgF' E 14 0 Try.f14 (by kernel_rfl); (conv at h in (light _) => cbv); exact @h : _)
def rg14_1 := (by have h := @rgF' E 14 1 Try.f14 (by kernel_rfl); (conv at h in (light _) => cbv); exact @h : _)
attribute [go_sem] rg14_0 rg14_1
theorem body15 : Try.f15.body = some (Code.seq (Code.region 0 (R Try.f15 0) false) (Code.seq (Code.seq (Code.region 1 (R Try.f15 1) false) (Code.cond (.tmp 12) (Code.seq (Code.region 2 (R Try.f15 2) false) Code.ret) Code.skip)) (Code.seq (Code.region 3 (R Try.f15 3) false) (Code.seq (Code.seq (Code.region 4 (R Try.f15 4) false) (Code.cond (.tmp 21) (Code.seq (Code.region 5 (R Try.f15 5) false) (Code.seq (Code.seq (Code.region 6 (R Try.f15 6) false) (Code.block 0 (Code.seq (Code.region 7 (R Try.f15 7) false) (Code.cond (.tmp 29) (Code.region 8 (R Try.f15 8) false) (Code.seq (Code.region 9 (R Try.f15 9) false) (Code.cond (.tmp 34) (Code.region 10 (R Try.f15 10) false) (Code.seq (Code.region 11 (R Try.f15 11) false) (Code.cond (.tmp 40) (Code.region 12 (R Try.f15 12) false) Code.skip)))))))) (Code.seq (Code.region 13 (R Try.f15 13) false) Code.ret))) Code.skip)) (Code.seq (Code.region 14 (R Try.f15 14) false) (Code.seq (Code.region 15 (R Try.f15 15) false) Code.ret)))))) := by kernel_rfl
def rg15_0 := (by have h := @rgF' E 15 0 Try.f15 (by kernel_rfl); (conv at h in (light _) => cbv); exact @h : _)
def rg15_1 := (by have h := @rgF' E 15 1 Try.f15 (by kernel_rfl); (conv at h in (light _) => cbv); exact @h : _)
def rg15_2 := (by have h := @rgF' E 15 2 Try.f15 (by kernel_rfl); (conv at h in (light _) => cbv); exact @h : _)
def rg15_3 := (by have h := @rgF' E 15 3 Try.f15 (by kernel_rfl); (conv at h in (light _) => cbv); exact @h : _)
def rg15_4 := (by have h := @rgF' E 15 4 Try.f15 (by kernel_rfl); (conv at h in (light _) => cbv); exact @h : _)
def rg15_5 := (by have h := @rgF' E 15 5 Try.f15 (by kernel_rfl); (conv at h in (light _) => cbv); exact @h : _)
def rg15_6 := (by have h := @rgF' E 15 6 Try.f15 (by kernel_rfl); (conv at h in (light _) => cbv); exact @h : _)
def rg15_7 := (by have h := @rgF' E 15 7 Try.f15 (by kernel_rfl); (conv at h in (light _) => cbv); exact @h : _)
def rg15_8 := (by have h := @rgF' E 15 8 Try.f15 (by kernel_rfl); (conv at h in (light _) => cbv); exact @h : _)
def rg15_9 := (by have h := @rgF' E 15 9 Try.f15 (by kernel_rfl); (conv at h in (light _) => cbv); exact @h : _)
def rg15_10 := (by have h := @rgF' E 15 10 Try.f15 (by kernel_rfl); (conv at h in (light _) => cbv); exact @h : _)
def rg15_11 := (by have h := @rgF' E 15 11 Try.f15 (by kernel_rfl); (conv at h in (light _) => cbv); exact @h : _)
def rg15_12 := (by have h := @rgF' E 15 12 Try.f15 (by kernel_rfl); (conv at h in (light _) => cbv); exact @h : _)
def rg15_13 := (by have h := @rgF' E 15 13 Try.f15 (by kernel_rfl); (conv at h in (light _) => cbv); exact @h : _)
def rg15_14 := (by have h := @rgF' E 15 14 Try.f15 (by kernel_rfl); (conv at h in (light _) => cbv); exact @h : _)
def rg15_15 := (by have h := @rgF' E 15 15 Try.f15 (by kernel_rfl); (conv at h in (light _) => cbv); exact @h : _)
attribute [go_sem] rg15_0 rg15_1 rg15_2 rg15_3 rg15_4 rg15_5 rg15_6 rg15_7 rg15_8 rg15_9 rg15_10 rg15_11 rg15_12 rg15_13 rg15_14 rg15_15
theorem body16 : Try.f16.body = some (Code.seq (Code.region 0 (R Try.f16 0) false) (Code.seq (Code.region 1 (R Try.f16 1) false) (Code.seq (Code.seq (Code.region 2 (R Try.f16 2) false) (Code.cond (.tmp 25) (Code.seq (Code.region 3 (R Try.f16 3) false) Code.ret) Code.skip)) (Code.seq (Code.region 4 (R Try.f16 4) false) (Code.seq (Code.region 5 (R Try.f16 5) true) Code.ret))))) := by kernel_rfl
def rg16_0 := (by have h := @rgF' E 16 0 Try.f16 (by kernel_rfl); (conv at h in (light _) => cbv); exact @h : _)
def rg16_1 := (by have h := @rgF' E 16 1 Try.f16 (by kernel_rfl); (conv at h in (light _) => cbv); exact @h : _)
def rg16_2 := (by have h := @rgF' E 16 2 Try.f16 (by kernel_rfl); (conv at h in (light _) => cbv); exact @h : _)
def rg16_3 := (by have h := @rgF' E 16 3 Try.f16 (by kernel_rfl); (conv at h in (light _) => cbv); exact @h : _)
def rg16_4 := (by have h := @rgF' E 16 4 Try.f16 (by kernel_rfl); (conv at h in (light _) => cbv); exact @h : _)
def rg16_5 := (by have h := @rgT' E 16 5 Try.f16 (by kernel_rfl); (conv at h in (light _) => cbv); exact @h : _)
attribute [go_sem] rg16_0 rg16_1 rg16_2 rg16_3 rg16_4 rg16_5
theorem body17 : Try.f17.body = some (Code.seq (Code.region 0 (R Try.f17 0) false) (Code.seq (Code.region 1 (R Try.f17 1) false) Code.ret)) := by kernel_rfl
def rg17_0 := (by have h := @rgF' E 17 0 Try.f17 (by kernel_rfl); (conv at h in (light _) => cbv); exact @h : _)
def rg17_1 := (by have h := @rgF' E 17 1 Try.f17 (by kernel_rfl); (conv at h in (light _) => cbv); exact @h : _)
attribute [go_sem] rg17_0 rg17_1
theorem body18 : Try.f18.body = some (Code.seq (Code.region 0 (R Try.f18 0) false) (Code.seq (Code.seq (Code.region 1 (R Try.f18 1) false) (Code.cond (.tmp 17) (Code.seq (Code.region 2 (R Try.f18 2) false) Code.ret) Code.skip)) (Code.seq (Code.region 3 (R Try.f18 3) true) (Code.seq (Code.region 4 (R Try.f18 4) false) Code.ret)))) := by kernel_rfl
def rg18_0 := (by have h := @rgF' E 18 0 Try.f18 (by kernel_rfl); (conv at h in (light _) => cbv); exact @h : _)
def rg18_1 := (by have h := @rgF' E 18 1 Try.f18 (by kernel_rfl); (conv at h in (light _) => cbv); exact @h : _)
def rg18_2 := (by have h := @rgF' E 18 2 Try.f18 (by kernel_rfl); (conv at h in (light _) => cbv); exact @h : _)
def rg18_3 := (by have h := @rgT' E 18 3 Try.f18 (by kernel_rfl); (conv at h in (light _) => cbv); exact @h : _)
def rg18_4 := (by have h := @rgF' E 18 4 Try.f18 (by kernel_rfl); (conv at h in (light _) => cbv); exact @h : _)
attribute [go_sem] rg18_0 rg18_1 rg18_2 rg18_3 rg18_4
theorem body20 : Try.f20.body = some (Code.seq (Code.region 0 (R Try.f20 0) false) (Code.seq (Code.region 1 (R Try.f20 1) false) Code.ret)) := by kernel_rfl
def rg20_0 := (by have h := @rgF' E 20 0 Try.f20 (by kernel_rfl); (conv at h in (light _) => cbv); exact @h : _)
def rg20_1 := (by have h := @rgF' E 20 1 Try.f20 (by kernel_rfl); (conv at h in (light _) => cbv); exact @h : _)
attribute [go_sem] rg20_0 rg20_1
theorem body21 : Try.f21.body = some (Code.seq (Code.region 0 (R Try.f21 0) false) (Code.seq (Code.seq (Code.region 1 (R Try.f21 1) false) (Code.cond (.tmp 16) (Code.seq (Code.region 2 (R Try.f21 2) false) Code.ret) Code.skip)) (Code.seq (Code.region 3 (R Try.f21 3) false) Code.ret))) := by kernel_rfl
def rg21_0 := (by have h := @rgF' E 21 0 Try.f21 (by kernel_rfl); (conv at h in (light _) => cbv); exact @h : _)
def rg21_1 := (by have h := @rgF' E 21 1 Try.f21 (by kernel_rfl); (conv at h in (light _) => cbv); exact @h : _)
def rg21_2 := (by have h := @rgF' E 21 2 Try.f21 (by kernel_rfl); (conv at h in (light _) => cbv); exact @h : _)
def rg21_3 := (by have h := @rgF' E 21 3 Try.f21 (by kernel_rfl); (conv at h in (light _) => cbv); exact @h : _)
attribute [go_sem] rg21_0 rg21_1 rg21_2 rg21_3
theorem body22 : Try.f22.body = some (Code.seq (Code.region 0 (R Try.f22 0) false) (Code.seq (Code.seq (Code.region 1 (R Try.f22 1) false) (Code.cond (.tmp 10) (Code.seq (Code.region 2 (R Try.f22 2) false) Code.ret) Code.skip)) (Code.seq (Code.seq (Code.region 3 (R Try.f22 3) false) (Code.block 0 (Code.loop (Code.seq (Code.seq (Code.region 4 (R Try.f22 4) false) (Code.cond (.tmp 14) Code.skip (Code.exit 0))) (Code.seq (Code.block 1 (Code.seq (Code.region 6 (R Try.f22 6) true) (Code.cond (.tmp 26) (Code.seq (Code.region 7 (R Try.f22 7) false) Code.ret) Code.skip))) (Code.region 5 (R Try.f22 5) false)))))) (Code.seq (Code.region 8 (R Try.f22 8) false) Code.ret)))) := by kernel_rfl
def rg22_0 := (by have h := @rgF' E 22 0 Try.f22 (by kernel_rfl); (conv at h in (light _) => cbv); exact @h : _)
def rg22_1 := (by have h := @rgF' E 22 1 Try.f22 (by kernel_rfl); (conv at h in (light _) => cbv); exact @h : _)
def rg22_2 := (by have h := @rgF' E 22 2 Try.f22 (by kernel_rfl); (conv at h in (light _) => cbv); exact @h : _)
def rg22_3 := (by have h := @rgF' E 22 3 Try.f22 (by kernel_rfl); (conv at h in (light _) => cbv); exact @h : _)
def rg22_4 := (by have h := @rgF' E 22 4 Try.f22 (by kernel_rfl); (conv at h in (light _) => cbv); exact @h : _)
def rg22_6 := (by have h := @rgT' E 22 6 Try.f22 (by kernel_rfl); (conv at h in (light _) => cbv); exact @h : _)
def rg22_7 := (by have h := @rgF' E 22 7 Try.f22 (by kernel_rfl); (conv at h in (light _) => cbv); exact @h : _)
def rg22_5 := (by have h := @rgF' E 22 5 Try.f22 (by kernel_rfl); (conv at h in (light _) => cbv); exact @h : _)
def rg22_8 := (by have h := @rgF' E 22 8 Try.f22 (by kernel_rfl); (conv at h in (light _) => cbv); exact @h : _)
attribute [go_sem] rg22_0 rg22_1 rg22_2 rg22_3 rg22_4 rg22_6 rg22_7 rg22_5 rg22_8
theorem body23 : Try.f23.body = some (Code.seq (Code.region 0 (R Try.f23 0) false) (Code.seq (Code.seq (Code.region 1 (R Try.f23 1) false) (Code.block 0 (Code.loop (Code.seq (Code.region 2 (R Try.f23 2) false) (Code.seq (Code.cond (.tmp 9) Code.skip (Code.exit 0)) (Code.seq (Code.block 1 (Code.seq (Code.region 3 (R Try.f23 3) false) (Code.seq (Code.region 4 (R Try.f23 4) false) (Code.cond (.tmp 16) (Code.seq (Code.region 5 (R Try.f23 5) false) Code.ret) Code.skip)))) (Code.region 6 (R Try.f23 6) false))))))) (Code.seq (Code.region 7 (R Try.f23 7) false) Code.ret))) := by kernel_rfl
def rg23_0 := (by have h := @rgF' E 23 0 Try.f23 (by kernel_rfl); (conv at h in (light _) => cbv); exact @h : _)
def rg23_1 := (by have h := @rgF' E 23 1 Try.f23 (by kernel_rfl); (conv at h in (light _) => cbv); exact @h : _)
def rg23_2 := (by have h := @rgF' E 23 2 Try.f23 (by kernel_rfl); (conv at h in (light _) => cbv); exact @h : _)
def rg23_3 := (by have h := @rgF' E 23 3 Try.f23 (by kernel_rfl); (conv at h in (light _) => cbv); exact @h : _)
def rg23_4 := (by have h := @rgF' E 23 4 Try.f23 (by kernel_rfl); (conv at h in (light _) => cbv); exact @h : _)
def rg23_5 := (by have h := @rgF' E 23 5 Try.f23 (by kernel_rfl); (conv at h in (light _) => cbv); exact @h : _)
def rg23_6 := (by have h := @rgF' E 23 6 Try.f23 (by kernel_rfl); (conv at h in (light _) => cbv); exact @h : _)
def rg23_7 := (by have h := @rgF' E 23 7 Try.f23 (by kernel_rfl); (conv at h in (light _) => cbv); exact @h : _)
attribute [go_sem] rg23_0 rg23_1 rg23_2 rg23_3 rg23_4 rg23_5 rg23_6 rg23_7
theorem body24 : Try.f24.body = some (Code.seq (Code.region 0 (R Try.f24 0) false) (Code.seq (Code.region 1 (R Try.f24 1) false) Code.ret)) := by kernel_rfl
def rg24_0 := (by have h := @rgF' E 24 0 Try.f24 (by kernel_rfl); (conv at h in (light _) => cbv); exact @h : _)
def rg24_1 := (by have h := @rgF' E 24 1 Try.f24 (by kernel_rfl); (conv at h in (light _) => cbv); exact @h : _)
attribute [go_sem] rg24_0 rg24_1
theorem body25 : Try.f25.body = some (Code.seq (Code.region 0 (R Try.f25 0) false) (Code.seq (Code.seq (Code.region 1 (R Try.f25 1) false) (Code.cond (.tmp 12) (Code.seq (Code.region 2 (R Try.f25 2) false) Code.ret) Code.skip)) (Code.seq (Code.seq (Code.region 3 (R Try.f25 3) false) (Code.block 0 (Code.loop (Code.seq (Code.region 4 (R Try.f25 4) false) (Code.seq (Code.cond (.tmp 17) Code.skip (Code.exit 0)) (Code.seq (Code.block 1 (Code.seq (Code.region 5 (R Try.f25 5) false) (Code.seq (Code.region 6 (R Try.f25 6) true) (Code.cond (.tmp 27) (Code.seq (Code.region 7 (R Try.f25 7) false) Code.ret) Code.skip)))) (Code.region 8 (R Try.f25 8) false))))))) (Code.seq (Code.region 9 (R Try.f25 9) false) Code.ret)))) := by kernel_rfl
def rg25_0 := (by have h := @rgF' E 25 0 Try.f25 (by kernel_rfl); (conv at h in (light _) => cbv); exact @h : _)
def rg25_1 := (by have h := @rgF' E 25 1 Try.f25 (by kernel_rfl); (conv at h in (light _) => cbv); exact @h : _)
def rg25_2 := (by have h := @rgF' E 25 2 Try.f25 (by kernel_rfl); (conv at h in (light _) => cbv); exact @h : _)
def rg25_3 := (by have h := @rgF' E 25 3 Try.f25 (by kernel_rfl); (conv at h in (light _) => cbv); exact @h : _)
def rg25_4 := (by have h := @rgF' E 25 4 Try.f25 (by kernel_rfl); (conv at h in (light _) => cbv); exact @h : _)
def rg25_5 := (by have h := @rgF' E 25 5 Try.f25 (by kernel_rfl); (conv at h in (light _) => cbv); exact @h : _)
def rg25_6 := (by have h := @rgT' E 25 6 Try.f25 (by kernel_rfl); (conv at h in (light _) => cbv); exact @h : _)
def rg25_7 := (by have h := @rgF' E 25 7 Try.f25 (by kernel_rfl); (conv at h in (light _) => cbv); exact @h : _)
def rg25_8 := (by have h := @rgF' E 25 8 Try.f25 (by kernel_rfl); (conv at h in (light _) => cbv); exact @h : _)
def rg25_9 := (by have h := @rgF' E 25 9 Try.f25 (by kernel_rfl); (conv at h in (light _) => cbv); exact @h : _)
attribute [go_sem] rg25_0 rg25_1 rg25_2 rg25_3 rg25_4 rg25_5 rg25_6 rg25_7 rg25_8 rg25_9
theorem body26 : Try.f26.body = some (Code.seq (Code.region 0 (R Try.f26 0) false) (Code.seq (Code.seq (Code.region 1 (R Try.f26 1) false) (Code.block 0 (Code.loop (Code.seq (Code.region 2 (R Try.f26 2) false) (Code.seq (Code.cond (.tmp 11) Code.skip (Code.exit 0)) (Code.seq (Code.block 1 (Code.seq (Code.region 3 (R Try.f26 3) false) (Code.seq (Code.region 4 (R Try.f26 4) false) (Code.seq (Code.region 5 (R Try.f26 5) false) (Code.cond (.tmp 37) (Code.seq (Code.region 6 (R Try.f26 6) false) Code.ret) Code.skip))))) (Code.region 7 (R Try.f26 7) false))))))) (Code.seq (Code.region 8 (R Try.f26 8) false) (Code.seq (Code.region 9 (R Try.f26 9) false) Code.ret)))) := by kernel_rfl
def rg26_0 := (by have h := @rgF' E 26 0 Try.f26 (by kernel_rfl); (conv at h in (light _) => cbv); exact @h : _)
def rg26_1 := (by have h := @rgF' E 26 1 Try.f26 (by kernel_rfl); (conv at h in (light _) => cbv); exact @h : _)
def rg26_2 := (by have h := @rgF' E 26 2 Try.f26 (by kernel_rfl); (conv at h in (light _) => cbv); exact @h : _)
def rg26_3 := (by have h := @rgF' E 26 3 Try.f26 (by kernel_rfl); (conv at h in (light _) => cbv); exact @h : _)
def rg26_4 := (by have h := @rgF' E 26 4 Try.f26 (by kernel_rfl); (conv at h in (light _) => cbv); exact @h : _)
def rg26_5 := (by have h := @rgF' E 26 5 Try.f26 (by kernel_rfl); (conv at h in (light _) => cbv); exact @h : _)
def rg26_6 := (by have h := @rgF' E 26 6 Try.f26 (by kernel_rfl); (conv at h in (light _) => cbv); exact @h : _)
def rg26_7 := (by have h := @rgF' E 26 7 Try.f26 (by kernel_rfl); (conv at h in (light _) => cbv); exact @h : _)
def rg26_8 := (by have h := @rgF' E 26 8 Try.f26 (by kernel_rfl); (conv at h in (light _) => cbv); exact @h : _)
def rg26_9 := (by have h := @rgF' E 26 9 Try.f26 (by kernel_rfl); (conv at h in (light _) => cbv); exact @h : _)
attribute [go_sem] rg26_0 rg26_1 rg26_2 rg26_3 rg26_4 rg26_5 rg26_6 rg26_7 rg26_8 rg26_9
theorem body27 : Try.f27.body = some (Code.seq (Code.region 0 (R Try.f27 0) false) (Code.seq (Code.region 1 (R Try.f27 1) false) Code.ret)) := by kernel_rfl
def rg27_0 := (by have h := @rgF' E 27 0 Try.f27 (by kernel_rfl); (conv at h in (light _) => cbv); exact @h : _)
def rg27_1 := (by have h := @rgF' E 27 1 Try.f27 (by kernel_rfl); (conv at h in (light _) => cbv); exact @h : _)
attribute [go_sem] rg27_0 rg27_1
theorem body29 : Try.f29.body = some (Code.seq (Code.region 0 (R Try.f29 0) false) (Code.seq (Code.region 1 (R Try.f29 1) false) (Code.seq (Code.seq (Code.region 2 (R Try.f29 2) false) (Code.block 0 (Code.loop (Code.seq (Code.region 3 (R Try.f29 3) false) (Code.seq (Code.cond (.tmp 16) Code.skip (Code.exit 0)) (Code.seq (Code.block 1 (Code.seq (Code.region 4 (R Try.f29 4) false) (Code.seq (Code.region 5 (R Try.f29 5) false) (Code.seq (Code.region 6 (R Try.f29 6) false) (Code.seq (Code.seq (Code.region 7 (R Try.f29 7) false) (Code.block 2 (Code.loop (Code.seq (Code.region 8 (R Try.f29 8) false) (Code.seq (Code.cond (.tmp 29) Code.skip (Code.exit 2)) (Code.seq (Code.block 3 (Code.seq (Code.region 9 (R Try.f29 9) false) (Code.seq (Code.region 10 (R Try.f29 10) false) (Code.cond (.tmp 35) (Code.region 11 (R Try.f29 11) true) Code.skip)))) (Code.region 12 (R Try.f29 12) false))))))) (Code.region 13 (R Try.f29 13) false)))))) (Code.region 14 (R Try.f29 14) false))))))) (Code.seq (Code.region 15 (R Try.f29 15) false) Code.ret)))) := by kernel_rfl
def rg29_0 := (by have h := @rgF' E 29 0 Try.f29 (by kernel_rfl); (conv at h in (light _) => cbv); exact @h : _)
def rg29_1 := (by have h := @rgF' E 29 1 Try.f29 (by kernel_rfl); (conv at h in (light _) => cbv); exact @h : _)
def rg29_2 := (by have h := @rgF' E 29 2 Try.f29 (by kernel_rfl); (conv at h in (light _) => cbv); exact @h : _)
def rg29_3 := (by have h := @rgF' E 29 3 Try.f29 (by kernel_rfl); (conv at h in (light _) => cbv); exact @h : _)
def rg29_4 := (by have h := @rgF' E 29 4 Try.f29 (by kernel_rfl); (conv at h in (light _) => cbv); exact @h : _)
def rg29_5 := (by have h := @rgF' E 29 5 Try.f29 (by kernel_rfl); (conv at h in (light _) => cbv); exact @h : _)
def rg29_6 := (by have h := @rgF' E 29 6 Try.f29 (by kernel_rfl); (conv at h in (light _) => cbv); exact @h : _)
def rg29_7 := (by have h := @rgF' E 29 7 Try.f29 (by kernel_rfl); (conv at h in (light _) => cbv); exact @h : _)
def rg29_8 := (by have h := @rgF' E 29 8 Try.f29 (by kernel_rfl); (conv at h in (light _) => cbv); exact @h : _)
def rg29_9 := (by have h := @rgF' E 29 9 Try.f29 (by kernel_rfl); (conv at h in (light _) => cbv); exact @h : _)
def rg29_10 := (by have h := @rgF' E 29 10 Try.f29 (by kernel_rfl); (conv at h in (light _) => cbv); exact @h : _)
def rg29_11 := (by have h := @rgT' E 29 11 Try.f29 (by kernel_rfl); (conv at h in (light _) => cbv); exact @h : _)
def rg29_12 := (by have h := @rgF' E 29 12 Try.f29 (by kernel_rfl); (conv at h in (light _) => cbv); exact @h : _)
def rg29_13 := (by have h := @rgF' E 29 13 Try.f29 (by kernel_rfl); (conv at h in (light _) => cbv); exact @h : _)
def rg29_14 := (by have h := @rgF' E 29 14 Try.f29 (by kernel_rfl); (conv at h in (light _) => cbv); exact @h : _)
def rg29_15 := (by have h := @rgF' E 29 15 Try.f29 (by kernel_rfl); (conv at h in (light _) => cbv); exact @h : _)
attribute [go_sem] rg29_0 rg29_1 rg29_2 rg29_3 rg29_4 rg29_5 rg29_6 rg29_7 rg29_8 rg29_9 rg29_10 rg29_11 rg29_12 rg29_13 rg29_14 rg29_15
theorem body30 : Try.f30.body = some (Code.seq (Code.region 0 (R Try.f30 0) false) (Code.seq (Code.region 1 (R Try.f30 1) false) (Code.seq (Code.seq (Code.region 2 (R Try.f30 2) false) (Code.block 0 (Code.loop (Code.seq (Code.region 3 (R Try.f30 3) false) (Code.seq (Code.cond (.tmp 9) Code.skip (Code.exit 0)) (Code.seq (Code.block 1 (Code.seq (Code.region 4 (R Try.f30 4) false) (Code.region 5 (R Try.f30 5) false))) (Code.region 6 (R Try.f30 6) false))))))) (Code.seq (Code.region 7 (R Try.f30 7) false) Code.ret)))) := by kernel_rfl
def rg30_0 := (by have h := @rgF' E 30 0 Try.f30 (by kernel_rfl); (conv at h in (light _) => cbv); exact @h : _)
def rg30_1 := (by have h := @rgF' E 30 1 Try.f30 (by kernel_rfl); (conv at h in (light _) => cbv); exact @h : _)
def rg30_2 := (by have h := @rgF' E 30 2 Try.f30 (by kernel_rfl); (conv at h in (light _) => cbv); exact @h : _)
def rg30_3 := (by have h := @rgF' E 30 3 Try.f30 (by kernel_rfl); (conv at h in (light _) => cbv); exact @h : _)
def rg30_4 := (by have h := @rgF' E 30 4 Try.f30 (by kernel_rfl); (conv at h in (light _) => cbv); exact @h : _)
def rg30_5 := (by have h := @rgF' E 30 5 Try.f30 (by kernel_rfl); (conv at h in (light _) => cbv); exact @h : _)
def rg30_6 := (by have h := @rgF' E 30 6 Try.f30 (by kernel_rfl); (conv at h in (light _) => cbv); exact @h : _)
def rg30_7 := (by have h := @rgF' E 30 7 Try.f30 (by kernel_rfl); (conv at h in (light _) => cbv); exact @h : _)
attribute [go_sem] rg30_0 rg30_1 rg30_2 rg30_3 rg30_4 rg30_5 rg30_6 rg30_7
theorem body31 : Try.f31.body = some (Code.seq (Code.region 0 (R Try.f31 0) false) (Code.seq (Code.region 1 (R Try.f31 1) false) (Code.seq (Code.seq (Code.region 2 (R Try.f31 2) false) (Code.block 0 (Code.loop (Code.seq (Code.region 3 (R Try.f31 3) false) (Code.seq (Code.cond (.tmp 9) Code.skip (Code.exit 0)) (Code.seq (Code.block 1 (Code.seq (Code.region 4 (R Try.f31 4) false) (Code.region 5 (R Try.f31 5) false))) (Code.region 6 (R Try.f31 6) false))))))) (Code.seq (Code.region 7 (R Try.f31 7) false) Code.ret)))) := by kernel_rfl
def rg31_0 := (by have h := @rgF' E 31 0 Try.f31 (by kernel_rfl); (conv at h in (light _) => cbv); exact @h : _)
def rg31_1 := (by have h := @rgF' E 31 1 Try.f31 (by kernel_rfl); (conv at h in (light _) => cbv); exact @h : _)
def rg31_2 := (by have h := @rgF' E 31 2 Try.f31 (by kernel_rfl); (conv at h in (light _) => cbv); exact @h : _)
def rg31_3 := (by have h := @rgF' E 31 3 Try.f31 (by kernel_rfl); (conv at h in (light _) => cbv); exact @h : _)
def rg31_4 := (by have h := @rgF' E 31 4 Try.f31 (by kernel_rfl); (conv at h in (light _) => cbv); exact @h : _)
def rg31_5 := (by have h := @rgF' E 31 5 Try.f31 (by kernel_rfl); (conv at h in (light _) => cbv); exact @h : _)
def rg31_6 := (by have h := @rgF' E 31 6 Try.f31 (by kernel_rfl); (conv at h in (light _) => cbv); exact @h : _)
def rg31_7 := (by have h := @rgF' E 31 7 Try.f31 (by kernel_rfl); (conv at h in (light _) => cbv); exact @h : _)
attribute [go_sem] rg31_0 rg31_1 rg31_2 rg31_3 rg31_4 rg31_5 rg31_6 rg31_7
theorem body32 : Try.f32.body = some (Code.seq (Code.region 0 (R Try.f32 0) false) (Code.seq (Code.region 1 (R Try.f32 1) false) Code.ret)) := by kernel_rfl
def rg32_0 := (by have h := @rgF' E 32 0 Try.f32 (by kernel_rfl); (conv at h in (light _) => cbv); exact @h : _)
def rg32_1 := (by have h := @rgF' E 32 1 Try.f32 (by kernel_rfl); (conv at h in (light _) => cbv); exact @h : _)
attribute [go_sem] rg32_0 rg32_1
theorem body33 : Try.f33.body = some (Code.seq (Code.region 0 (R Try.f33 0) false) (Code.seq (Code.region 1 (R Try.f33 1) false) Code.ret)) := by kernel_rfl
def rg33_0 := (by have h := @rgF' E 33 0 Try.f33 (by kernel_rfl); (conv at h in (light _) => cbv); exact @h : _)
def rg33_1 := (by have h := @rgF' E 33 1 Try.f33 (by kernel_rfl); (conv at h in (light _) => cbv); exact @h : _)
attribute [go_sem] rg33_0 rg33_1
theorem body34 : Try.f34.body = some (Code.seq (Code.region 0 (R Try.f34 0) false) (Code.seq (Code.region 1 (R Try.f34 1) false) Code.ret)) := by kernel_rfl
def rg34_0 := (by have h := @rgF' E 34 0 Try.f34 (by kernel_rfl); (conv at h in (light _) => cbv); exact @h : _)
def rg34_1 := (by have h := @rgF' E 34 1 Try.f34 (by kernel_rfl); (conv at h in (light _) => cbv); exact @h : _)
attribute [go_sem] rg34_0 rg34_1
theorem body35 : Try.f35.body = some (Code.seq (Code.region 0 (R Try.f35 0) false) (Code.seq (Code.seq (Code.region 1 (R Try.f35 1) false) (Code.block 0 (Code.loop (Code.seq (Code.region 2 (R Try.f35 2) false) (Code.seq (Code.cond (.tmp 7) Code.skip (Code.exit 0)) (Code.seq (Code.block 1 (Code.seq (Code.region 3 (R Try.f35 3) false) (Code.seq (Code.region 4 (R Try.f35 4) false) (Code.cond (.tmp 18) (Code.seq (Code.region 5 (R Try.f35 5) false) Code.ret) Code.skip)))) (Code.region 6 (R Try.f35 6) false))))))) (Code.seq (Code.region 7 (R Try.f35 7) false) Code.ret))) := by kernel_rfl
def rg35_0 := (by have h := @rgF' E 35 0 Try.f35 (by kernel_rfl); (conv at h in (light _) => cbv); exact @h : _)
def rg35_1 := (by have h := @rgF' E 35 1 Try.f35 (by kernel_rfl); (conv at h in (light _) => cbv); exact @h : _)
def rg35_2 := (by have h := @rgF' E 35 2 Try.f35 (by kernel_rfl); (conv at h in (light _) => cbv); exact @h : _)
def rg35_3 := (by have h := @rgF' E 35 3 Try.f35 (by kernel_rfl); (conv at h in (light _) => cbv); exact @h : _)
def rg35_4 := (by have h := @rgF' E 35 4 Try.f35 (by kernel_rfl); (conv at h in (light _) => cbv); exact @h : _)
def rg35_5 := (by have h := @rgF' E 35 5 Try.f35 (by kernel_rfl); (conv at h in (light _) => cbv); exact @h : _)
def rg35_6 := (by have h := @rgF' E 35 6 Try.f35 (by kernel_rfl); (conv at h in (light _) => cbv); exact @h : _)
def rg35_7 := (by have h := @rgF' E 35 7 Try.f35 (by kernel_rfl); (conv at h in (light _) => cbv); exact @h : _)
attribute [go_sem] rg35_0 rg35_1 rg35_2 rg35_3 rg35_4 rg35_5 rg35_6 rg35_7
theorem body36 : Try.f36.body = some (Code.seq (Code.region 0 (R Try.f36 0) false) (Code.seq (Code.region 1 (R Try.f36 1) false) Code.ret)) := by kernel_rfl
def rg36_0 := (by have h := @rgF' E 36 0 Try.f36 (by kernel_rfl); (conv at h in (light _) => cbv); exact @h : _)
def rg36_1 := (by have h := @rgF' E 36 1 Try.f36 (by kernel_rfl); (conv at h in (light _) => cbv); exact @h : _)
attribute [go_sem] rg36_0 rg36_1
theorem body37 : Try.f37.body = some (Code.seq (Code.region 0 (R Try.f37 0) false) (Code.seq (Code.seq (Code.region 1 (R Try.f37 1) false) (Code.block 0 (Code.loop (Code.seq (Code.region 2 (R Try.f37 2) false) (Code.seq (Code.cond (.tmp 9) Code.skip (Code.exit 0)) (Code.seq (Code.block 1 (Code.seq (Code.region 3 (R Try.f37 3) false) (Code.seq (Code.region 4 (R Try.f37 4) false) (Code.cond (.tmp 16) (Code.seq (Code.region 5 (R Try.f37 5) false) Code.ret) Code.skip)))) (Code.region 6 (R Try.f37 6) false))))))) (Code.seq (Code.region 7 (R Try.f37 7) false) Code.ret))) := by kernel_rfl
def rg37_0 := (by have h := @rgF' E 37 0 Try.f37 (by kernel_rfl); (conv at h in (light _) => cbv); exact @h : _)
def rg37_1 := (by have h := @rgF' E 37 1 Try.f37 (by kernel_rfl); (conv at h in (light _) => cbv); exact @h : _)
def rg37_2 := (by have h := @rgF' E 37 2 Try.f37 (by kernel_rfl); (conv at h in (light _) => cbv); exact @h : _)
def rg37_3 := (by have h := @rgF' E 37 3 Try.f37 (by kernel_rfl); (conv at h in (light _) => cbv); exact @h : _)
def rg37_4 := (by have h := @rgF' E 37 4 Try.f37 (by kernel_rfl); (conv at h in (light _) => cbv); exact @h : _)
def rg37_5 := (by have h := @rgF' E 37 5 Try.f37 (by kernel_rfl); (conv at h in (light _) => cbv); exact @h : _)
def rg37_6 := (by have h := @rgF' E 37 6 Try.f37 (by kernel_rfl); (conv at h in (light _) => cbv); exact @h : _)
def rg37_7 := (by have h := @rgF' E 37 7 Try.f37 (by kernel_rfl); (conv at h in (light _) => cbv); exact @h : _)
attribute [go_sem] rg37_0 rg37_1 rg37_2 rg37_3 rg37_4 rg37_5 rg37_6 rg37_7
theorem body38 : Try.f38.body = some (Code.seq (Code.region 0 (R Try.f38 0) false) (Code.seq (Code.block 0 (Code.seq (Code.region 5 (R Try.f38 5) false) (Code.cond (.tmp 21) (Code.region 6 (R Try.f38 6) false) (Code.seq (Code.region 7 (R Try.f38 7) false) (Code.cond (.tmp 28) (Code.region 8 (R Try.f38 8) true) (Code.seq (Code.seq (Code.region 1 (R Try.f38 1) false) (Code.cond (.tmp 9) (Code.region 2 (R Try.f38 2) false) Code.skip)) (Code.seq (Code.region 3 (R Try.f38 3) false) (Code.cond (.tmp 17) (Code.region 4 (R Try.f38 4) false) Code.skip)))))))) (Code.seq (Code.region 9 (R Try.f38 9) false) Code.ret))) := by kernel_rfl
def rg38_0 := (by have h := @rgF' E 38 0 Try.f38 (by kernel_rfl); (conv at h in (light _) => cbv); exact @h : _)
def rg38_5 := (by have h := @rgF' E 38 5 Try.f38 (by kernel_rfl); (conv at h in (light _) => cbv); exact @h : _)
def rg38_6 := (by have h := @rgF' E 38 6 Try.f38 (by kernel_rfl); (conv at h in (light _) => cbv); exact @h : _)
def rg38_7 := (by have h := @rgF' E 38 7 Try.f38 (by kernel_rfl); (conv at h in (light _) => cbv); exact @h : _)
def rg38_8 := (by have h := @rgT' E 38 8 Try.f38 (by kernel_rfl); (conv at h in (light _) => cbv); exact @h : _)
def rg38_1 := (by have h := @rgF' E 38 1 Try.f38 (by kernel_rfl); (conv at h in (light _) => cbv); exact @h : _)
def rg38_2 := (by have h := @rgF' E 38 2 Try.f38 (by kernel_rfl); (conv at h in (light _) => cbv); exact @h : _)
def rg38_3 := (by have h := @rgF' E 38 3 Try.f38 (by kernel_rfl); (conv at h in (light _) => cbv); exact @h : _)
def rg38_4 := (by have h := @rgF' E 38 4 Try.f38 (by kernel_rfl); (conv at h in (light _) => cbv); exact @h : _)
def rg38_9 := (by have h := @rgF' E 38 9 Try.f38 (by kernel_rfl); (conv at h in (light _) => cbv); exact @h : _)
attribute [go_sem] rg38_0 rg38_5 rg38_6 rg38_7 rg38_8 rg38_1 rg38_2 rg38_3 rg38_4 rg38_9
theorem body40 : Try.f40.body = some (Code.seq (Code.region 0 (R Try.f40 0) false) (Code.seq (Code.region 1 (R Try.f40 1) false) (Code.seq (Code.region 2 (R Try.f40 2) false) Code.ret))) := by kernel_rfl
def rg40_0 := (by have h := @rgF' E 40 0 Try.f40 (by kernel_rfl); (conv at h in (light _) => cbv); exact @h : _)
def rg40_1 := (by have h := @rgF' E 40 1 Try.f40 (by kernel_rfl); (conv at h in (light _) => cbv); exact @h : _)
def rg40_2 := (by have h := @rgF' E 40 2 Try.f40 (by kernel_rfl); (conv at h in (light _) => cbv); exact @h : _)
attribute [go_sem] rg40_0 rg40_1 rg40_2
theorem body42 : Try.f42.body = some (Code.seq (Code.region 0 (R Try.f42 0) false) (Code.seq (Code.block 0 (Code.seq (Code.region 1 (R Try.f42 1) false) (Code.cond (.tmp 3) (Code.seq (Code.region 2 (R Try.f42 2) false) Code.ret) (Code.seq (Code.region 3 (R Try.f42 3) false) (Code.cond (.tmp 12) (Code.seq (Code.region 4 (R Try.f42 4) false) Code.ret) (Code.seq (Code.region 5 (R Try.f42 5) false) (Code.cond (.tmp 24) (Code.seq (Code.region 6 (R Try.f42 6) false) Code.ret) Code.skip))))))) (Code.seq (Code.region 7 (R Try.f42 7) false) Code.ret))) := by kernel_rfl
def rg42_0 := (by have h := @rgF' E 42 0 Try.f42 (by kernel_rfl); (conv at h in (light _) => cbv); exact @h : _)
def rg42_1 := (by have h := @rgF' E 42 1 Try.f42 (by kernel_rfl); (conv at h in (light _) => cbv); exact @h : _)
def rg42_2 := (by have h := @rgF' E 42 2 Try.f42 (by kernel_rfl); (conv at h in (light _) => cbv); exact @h : _)
def rg42_3 := (by have h := @rgF' E 42 3 Try.f42 (by kernel_rfl); (conv at h in (light _) => cbv); exact @h : _)
def rg42_4 := (by have h := @rgF' E 42 4 Try.f42 (by kernel_rfl); (conv at h in (light _) => cbv); exact @h : _)
def rg42_5 := (by have h := @rgF' E 42 5 Try.f42 (by kernel_rfl); (conv at h in (light _) => cbv); exact @h : _)
def rg42_6 := (by have h := @rgF' E 42 6 Try.f42 (by kernel_rfl); (conv at h in (light _) => cbv); exact @h : _)
def rg42_7 := (by have h := @rgF' E 42 7 Try.f42 (by kernel_rfl); (conv at h in (light _) => cbv); exact @h : _)
attribute [go_sem] rg42_0 rg42_1 rg42_2 rg42_3 rg42_4 rg42_5 rg42_6 rg42_7
theorem body43 : Try.f43.body = some (Code.seq (Code.region 0 (R Try.f43 0) false) (Code.seq (Code.seq (Code.region 1 (R Try.f43 1) false) (Code.block 0 (Code.loop (Code.seq (Code.region 2 (R Try.f43 2) false) (Code.seq (Code.cond (.tmp 9) Code.skip (Code.exit 0)) (Code.seq (Code.block 1 (Code.seq (Code.region 3 (R Try.f43 3) false) (Code.seq (Code.region 4 (R Try.f43 4) false) (Code.cond (.tmp 16) (Code.seq (Code.region 5 (R Try.f43 5) false) Code.ret) Code.skip)))) (Code.region 6 (R Try.f43 6) false))))))) (Code.seq (Code.region 7 (R Try.f43 7) false) Code.ret))) := by kernel_rfl
def rg43_0 := (by have h := @rgF' E 43 0 Try.f43 (by kernel_rfl); (conv at h in (light _) => cbv); exact @h : _)
def rg43_1 := (by have h := @rgF' E 43 1 Try.f43 (by kernel_rfl); (conv at h in (light _) => cbv); exact @h : _)
def rg43_2 := (by have h := @rgF' E 43 2 Try.f43 (by kernel_rfl); (conv at h in (light _) => cbv); exact @h : _)
def rg43_3 := (by have h := @rgF' E 43 3 Try.f43 (by kernel_rfl); (conv at h in (light _) => cbv); exact @h : _)
def rg43_4 := (by have h := @rgF' E 43 4 Try.f43 (by kernel_rfl); (conv at h in (light _) => cbv); exact @h : _)
def rg43_5 := (by have h := @rgF' E 43 5 Try.f43 (by kernel_rfl); (conv at h in (light _) => cbv); exact @h : _)
def rg43_6 := (by have h := @rgF' E 43 6 Try.f43 (by kernel_rfl); (conv at h in (light _) => cbv); exact @h : _)
def rg43_7 := (by have h := @rgF' E 43 7 Try.f43 (by kernel_rfl); (conv at h in (light _) => cbv); exact @h : _)
attribute [go_sem] rg43_0 rg43_1 rg43_2 rg43_3 rg43_4 rg43_5 rg43_6 rg43_7
theorem body44 : Try.f44.body = some (Code.seq (Code.region 0 (R Try.f44 0) false) (Code.seq (Code.seq (Code.region 1 (R Try.f44 1) true) (Code.seq (Code.region 2 (R Try.f44 2) false) (Code.cond (.tmp 16) (Code.seq (Code.region 3 (R Try.f44 3) false) Code.ret) Code.skip))) (Code.seq (Code.seq (Code.region 4 (R Try.f44 4) false) (Code.block 0 (Code.seq (Code.region 5 (R Try.f44 5) false) (Code.cond (.tmp 20) (Code.seq (Code.region 6 (R Try.f44 6) false) Code.ret) (Code.seq (Code.region 7 (R Try.f44 7) false) (Code.cond (.tmp 27) (Code.seq (Code.region 8 (R Try.f44 8) false) Code.ret) Code.skip)))))) (Code.seq (Code.region 9 (R Try.f44 9) false) Code.ret)))) := by kernel_rfl
def rg44_0 := (by have h := @rgF' E 44 0 Try.f44 (by kernel_rfl); (conv at h in (light _) => cbv); exact @h : _)
def rg44_1 := (by have h := @rgT' E 44 1 Try.f44 (by kernel_rfl); (conv at h in (light _) => cbv); exact @h : _)
def rg44_2 := (by have h := @rgF' E 44 2 Try.f44 (by kernel_rfl); (conv at h in (light _) => cbv); exact @h : _)
def rg44_3 := (by have h := @rgF' E 44 3 Try.f44 (by kernel_rfl); (conv at h in (light _) => cbv); exact @h : _)
def rg44_4 := (by have h := @rgF' E 44 4 Try.f44 (by kernel_rfl); (conv at h in (light _) => cbv); exact @h : _)
def rg44_5 := (by have h := @rgF' E 44 5 Try.f44 (by kernel_rfl); (conv at h in (light _) => cbv); exact @h : _)
def rg44_6 := (by have h := @rgF' E 44 6 Try.f44 (by kernel_rfl); (conv at h in (light _) => cbv); exact @h : _)
def rg44_7 := (by have h := @rgF' E 44 7 Try.f44 (by kernel_rfl); (conv at h in (light _) => cbv); exact @h : _)
def rg44_8 := (by have h := @rgF' E 44 8 Try.f44 (by kernel_rfl); (conv at h in (light _) => cbv); exact @h : _)
def rg44_9 := (by have h := @rgF' E 44 9 Try.f44 (by kernel_rfl); (conv at h in (light _) => cbv); exact @h : _)
attribute [go_sem] rg44_0 rg44_1 rg44_2 rg44_3 rg44_4 rg44_5 rg44_6 rg44_7 rg44_8 rg44_9
theorem body46 : Try.f46.body = some (Code.seq (Code.region 0 (R Try.f46 0) false) (Code.seq (Code.region 1 (R Try.f46 1) false) (Code.seq (Code.region 2 (R Try.f46 2) false) (Code.seq (Code.seq (Code.region 3 (R Try.f46 3) false) (Code.cond (.tmp 11) (Code.seq (Code.seq (Code.region 4 (R Try.f46 4) false) (Code.cond (.tmp 12) (Code.seq (Code.region 5 (R Try.f46 5) false) Code.ret) Code.skip)) (Code.seq (Code.region 6 (R Try.f46 6) false) Code.ret)) Code.skip)) (Code.seq (Code.seq (Code.region 7 (R Try.f46 7) false) (Code.cond (.tmp 13) (Code.seq (Code.region 8 (R Try.f46 8) false) Code.ret) Code.skip)) (Code.seq (Code.seq (Code.region 9 (R Try.f46 9) false) (Code.cond (.tmp 16) (Code.seq (Code.region 10 (R Try.f46 10) false) Code.ret) Code.skip)) (Code.seq (Code.seq (Code.region 11 (R Try.f46 11) false) (Code.cond (.tmp 19) (Code.seq (Code.region 12 (R Try.f46 12) false) Code.ret) Code.skip)) (Code.seq (Code.region 13 (R Try.f46 13) false) Code.ret)))))))) := by kernel_rfl
def rg46_0 := (by have h := @rgF' E 46 0 Try.f46 (by kernel_rfl); (conv at h in (light _) => cbv); exact @h : _)
def rg46_1 := (by have h := @rgF' E 46 1 Try.f46 (by kernel_rfl); (conv at h in (light _) => cbv); exact @h : _)
def rg46_2 := (by have h := @rgF' E 46 2 Try.f46 (by kernel_rfl); (conv at h in (light _) => cbv); exact @h : _)
def rg46_3 := (by have h := @rgF' E 46 3 Try.f46 (by kernel_rfl); (conv at h in (light _) => cbv); exact @h : _)
def rg46_4 := (by have h := @rgF' E 46 4 Try.f46 (by kernel_rfl); (conv at h in (light _) => cbv); exact @h : _)
def rg46_5 := (by have h := @rgF' E 46 5 Try.f46 (by kernel_rfl); (conv at h in (light _) => cbv); exact @h : _)
def rg46_6 := (by have h := @rgF' E 46 6 Try.f46 (by kernel_rfl); (conv at h in (light _) => cbv); exact @h : _)
def rg46_7 := (by have h := @rgF' E 46 7 Try.f46 (by kernel_rfl); (conv at h in (light _) => cbv); exact @h : _)
def rg46_8 := (by have h := @rgF' E 46 8 Try.f46 (by kernel_rfl); (conv at h in (light _) => cbv); exact @h : _)
def rg46_9 := (by have h := @rgF' E 46 9 Try.f46 (by kernel_rfl); (conv at h in (light _) => cbv); exact @h : _)
def rg46_10 := (by have h := @rgF' E 46 10 Try.f46 (by kernel_rfl); (conv at h in (light _) => cbv); exact @h : _)
def rg46_11 := (by have h := @rgF' E 46 11 Try.f46 (by kernel_rfl); (conv at h in (light _) => cbv); exact @h : _)
def rg46_12 := (by have h := @rgF' E 46 12 Try.f46 (by kernel_rfl); (conv at h in (light _) => cbv); exact @h : _)
def rg46_13 := (by have h := @rgF' E 46 13 Try.f46 (by kernel_rfl); (conv at h in (light _) => cbv); exact @h : _)
attribute [go_sem] rg46_0 rg46_1 rg46_2 rg46_3 rg46_4 rg46_5 rg46_6 rg46_7 rg46_8 rg46_9 rg46_10 rg46_11 rg46_12 rg46_13
theorem body47 : Try.f47.body = some (Code.seq (Code.region 0 (R Try.f47 0) false) (Code.seq (Code.seq (Code.region 1 (R Try.f47 1) false) (Code.cond (.tmp 4) (Code.seq (Code.region 2 (R Try.f47 2) false) Code.ret) Code.skip)) (Code.seq (Code.region 3 (R Try.f47 3) false) Code.ret))) := by kernel_rfl
def rg47_0 := (by have h := @rgF' E 47 0 Try.f47 (by kernel_rfl); (conv at h in (light _) => cbv); exact @h : _)
def rg47_1 := (by have h := @rgF' E 47 1 Try.f47 (by kernel_rfl); (conv at h in (light _) => cbv); exact @h : _)
def rg47_2 := (by have h := @rgF' E 47 2 Try.f47 (by kernel_rfl); (conv at h in (light _) => cbv); exact @h : _)
def rg47_3 := (by have h := @rgF' E 47 3 Try.f47 (by kernel_rfl); (conv at h in (light _) => cbv); exact @h : _)
attribute [go_sem] rg47_0 rg47_1 rg47_2 rg47_3
theorem body48 : Try.f48.body = some (Code.seq (Code.region 0 (R Try.f48 0) false) (Code.seq (Code.region 1 (R Try.f48 1) false) (Code.seq (Code.region 2 (R Try.f48 2) false) (Code.seq (Code.seq (Code.region 3 (R Try.f48 3) false) (Code.cond (.tmp 11) (Code.seq (Code.seq (Code.region 4 (R Try.f48 4) false) (Code.cond (.tmp 12) (Code.seq (Code.region 5 (R Try.f48 5) false) Code.ret) Code.skip)) (Code.seq (Code.region 6 (R Try.f48 6) false) Code.ret)) Code.skip)) (Code.seq (Code.seq (Code.region 7 (R Try.f48 7) false) (Code.cond (.tmp 13) (Code.seq (Code.region 8 (R Try.f48 8) false) Code.ret) Code.skip)) (Code.seq (Code.seq (Code.region 9 (R Try.f48 9) false) (Code.cond (.tmp 16) (Code.seq (Code.region 10 (R Try.f48 10) false) Code.ret) Code.skip)) (Code.seq (Code.seq (Code.region 11 (R Try.f48 11) false) (Code.cond (.tmp 19) (Code.seq (Code.region 12 (R Try.f48 12) false) Code.ret) Code.skip)) (Code.seq (Code.region 13 (R Try.f48 13) false) Code.ret)))))))) := by kernel_rfl
def rg48_0 := (by have h := @rgF' E 48 0 Try.f48 (by kernel_rfl); (conv at h in (light _) => cbv); exact @h : _)
def rg48_1 := (by have h := @rgF' E 48 1 Try.f48 (by kernel_rfl); (conv at h in (light _) => cbv); exact @h : _)
def rg48_2 := (by have h := @rgF' E 48 2 Try.f48 (by kernel_rfl); (conv at h in (light _) => cbv); exact @h : _)
def rg48_3 := (by have h := @rgF' E 48 3 Try.f48 (by kernel_rfl); (conv at h in (light _) => cbv); exact @h : _)
def rg48_4 := (by have h := @rgF' E 48 4 Try.f48 (by kernel_rfl); (conv at h in (light _) => cbv); exact @h : _)
def rg48_5 := (by have h := @rgF' E 48 5 Try.f48 (by kernel_rfl); (conv at h in (light _) => cbv); exact @h : _)
def rg48_6 := (by have h := @rgF' E 48 6 Try.f48 (by kernel_rfl); (conv at h in (light _) => cbv); exact @h : _)
def rg48_7 := (by have h := @rgF' E 48 7 Try.f48 (by kernel_rfl); (conv at h in (light _) => cbv); exact @h : _)
def rg48_8 := (by have h := @rgF' E 48 8 Try.f48 (by kernel_rfl); (conv at h in (light _) => cbv); exact @h : _)
def rg48_9 := (by have h := @rgF' E 48 9 Try.f48 (by kernel_rfl); (conv at h in (light _) => cbv); exact @h : _)
def rg48_10 := (by have h := @rgF' E 48 10 Try.f48 (by kernel_rfl); (conv at h in (light _) => cbv); exact @h : _)
def rg48_11 := (by have h := @rgF' E 48 11 Try.f48 (by kernel_rfl); (conv at h in (light _) => cbv); exact @h : _)
def rg48_12 := (by have h := @rgF' E 48 12 Try.f48 (by kernel_rfl); (conv at h in (light _) => cbv); exact @h : _)
def rg48_13 := (by have h := @rgF' E 48 13 Try.f48 (by kernel_rfl); (conv at h in (light _) => cbv); exact @h : _)
attribute [go_sem] rg48_0 rg48_1 rg48_2 rg48_3 rg48_4 rg48_5 rg48_6 rg48_7 rg48_8 rg48_9 rg48_10 rg48_11 rg48_12 rg48_13
theorem body50 : Try.f50.body = some (Code.seq (Code.region 0 (R Try.f50 0) false) (Code.seq (Code.region 1 (R Try.f50 1) false) Code.ret)) := by kernel_rfl
def rg50_0 := (by have h := @rgF' E 50 0 Try.f50 (by kernel_rfl); (conv at h in (light _) => cbv); exact @h : _)
def rg50_1 := (by have h := @rgF' E 50 1 Try.f50 (by kernel_rfl); (conv at h in (light _) => cbv); exact @h : _)
attribute [go_sem] rg50_0 rg50_1
theorem body51 : Try.f51.body = some (Code.seq (Code.region 0 (R Try.f51 0) false) (Code.seq (Code.region 1 (R Try.f51 1) false) Code.ret)) := by kernel_rfl
def rg51_0 := (by have h := @rgF' E 51 0 Try.f51 (by kernel_rfl); (conv at h in (light _) => cbv); exact @h : _)
def rg51_1 := (by have h := @rgF' E 51 1 Try.f51 (by kernel_rfl); (conv at h in (light _) => cbv); exact @h : _)
attribute [go_sem] rg51_0 rg51_1
end Go.Proofs.Ytfgbklmmildakaa.D
