import Derived.Test.YtfppbkpdpapemaaDoorCfgKit
import Derived.Laws.StructEq
/-! Configs compared. -/
set_option linter.unusedSimpArgs false
set_option linter.unusedVariables false
namespace Go.Proofs.YtfppbkpdpapemaaDoor
open Go.RowKit Go.Proofs.YtfppbkpdpapemaaDoorW.PrintWords Go.Proofs.YtfppbkpdpapemaaDoorW.PrintLast Go.Proofs.YtfppbkpdpapemaaDoorW.PrintMore
def Pl.eqCfg (a b : Pl.Cfg) : Bool := ((a.fmt.toNat : Int) == (b.fmt.toNat : Int)) && ((a.num == b.num) && ((a.skip == b.skip) && ((a.both == b.both) && ((a.loops == b.loops) && ((a.back == b.back) && ((a.bud == b.bud) && ((a.fan == b.fan) && (a.sha == b.sha))))))))
theorem Pl.eqCfg_iff (a b : Pl.Cfg) : Pl.eqCfg a b = decide (a = b) := by
  rw [Bool.eq_iff_iff]
  simp only [Pl.eqCfg, Bool.and_eq_true, beq_iff_eq, decide_eq_true_eq]
  obtain ⟨a0, a1, a2, a3, a4, a5, a6, a7, a8⟩ := a
  obtain ⟨b0, b1, b2, b3, b4, b5, b6, b7, b8⟩ := b
  simp only [Pl.Cfg.mk.injEq, Int.natCast_inj, UInt8.toNat_inj]
theorem eq_cfg (a b : Pl.Cfg) (W : World) : (binOp .eql 23 (cfgV a) (cfgV b)).run Tryd.prog W = .ok (.bool (Pl.eqCfg a b)) W := by
  have h : (Op.equalIn 10000 23 (cfgV a) (cfgV b)).run Tryd.prog W = .ok (Pl.eqCfg a b) W := by
    refine eqA_of Tryd.underlying23 (by kernel_rfl) ?_
    unfold Pl.eqCfg
    refine eqf_cons (a := .int .u8 (a.fmt.toNat : Int)) (b := .int .u8 (b.fmt.toNat : Int)) (by decide) (by kernel_rfl) (by kernel_rfl) (run_equalIn_int W _ 5 .u8 .u8 (a.fmt.toNat : Int) (b.fmt.toNat : Int) Tryd.underlying5) ?_
    refine eqf_cons (a := .bool a.num) (b := .bool b.num) (by decide) (by kernel_rfl) (by kernel_rfl) (run_equalIn_bool' W _ 4 a.num b.num Tryd.underlying4) ?_
    refine eqf_cons (a := .bool a.skip) (b := .bool b.skip) (by decide) (by kernel_rfl) (by kernel_rfl) (run_equalIn_bool' W _ 4 a.skip b.skip Tryd.underlying4) ?_
    refine eqf_cons (a := .bool a.both) (b := .bool b.both) (by decide) (by kernel_rfl) (by kernel_rfl) (run_equalIn_bool' W _ 4 a.both b.both Tryd.underlying4) ?_
    refine eqf_cons (a := .bool a.loops) (b := .bool b.loops) (by decide) (by kernel_rfl) (by kernel_rfl) (run_equalIn_bool' W _ 4 a.loops b.loops Tryd.underlying4) ?_
    refine eqf_cons (a := .bool a.back) (b := .bool b.back) (by decide) (by kernel_rfl) (by kernel_rfl) (run_equalIn_bool' W _ 4 a.back b.back Tryd.underlying4) ?_
    refine eqf_cons (a := .int .i64 a.bud) (b := .int .i64 b.bud) (by decide) (by kernel_rfl) (by kernel_rfl) (run_equalIn_int W _ 3 .i64 .i64 a.bud b.bud Tryd.underlying3) ?_
    refine eqf_cons (a := .int .i64 a.fan) (b := .int .i64 b.fan) (by decide) (by kernel_rfl) (by kernel_rfl) (run_equalIn_int W _ 3 .i64 .i64 a.fan b.fan Tryd.underlying3) ?_
    exact eqf_last (a := .int .i64 a.sha) (b := .int .i64 b.sha) (by decide) (by kernel_rfl) (by kernel_rfl) (run_equalIn_int W _ 3 .i64 .i64 a.sha b.sha Tryd.underlying3)
  rw [run_eql_struct, h]
  rfl
end Go.Proofs.YtfppbkpdpapemaaDoor
