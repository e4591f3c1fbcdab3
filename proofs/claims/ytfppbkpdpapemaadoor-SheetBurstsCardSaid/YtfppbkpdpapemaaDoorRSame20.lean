import Derived.Test.YtfppbkpdpapemaaDoorCfgKit
import Derived.Laws.StructEq
import Derived.Test.YtfppbkpdpapemaaDoorSPut
/-! Configs compared. -/
set_option linter.unusedSimpArgs false
set_option linter.unusedVariables false
namespace Go.Proofs.YtfppbkpdpapemaaDoor
open Go.RowKit Go.Proofs.YtfppbkpdpapemaaDoorW.PrintWords Go.Proofs.YtfppbkpdpapemaaDoorW.PrintLast Go.Proofs.YtfppbkpdpapemaaDoorW.PrintMore
def Pl.eqCfg (a b : Pl.Cfg) : Bool := ((a.fmt.toNat : Int) == (b.fmt.toNat : Int)) && ((a.num == b.num) && ((a.skip == b.skip) && ((a.both == b.both) && ((a.loops == b.loops) && ((a.back == b.back) && ((a.bud == b.bud) && ((a.fan == b.fan) && (a.sha == b.sha))))))))
theorem Pl.eqCfg_iff (a b : Pl.Cfg) : Pl.eqCfg a b = decide (a = b) := by
  rw [Bool.eq_iff_iff]
  simp only [Pl.eqCfg, Bool.and_eq_true, beq_iff_eq, decide_eq_true_eq]
  obtain ⟨a0, a1, a2, a3, a4, a5, a6, a7, a8⟩ := a
  obtain ⟨b0, b1, b2, b3, b4, b5, b6, b7, b8⟩ := b
  simp only [Pl.Cfg.mk.injEq, Int.natCast_inj, UInt8.toNat_inj]
theorem eq_cfg (a b : Pl.Cfg) (W : World) : (binOp .eql 23 (cfgV a) (cfgV b)).run Tryd.prog W = .ok (.bool (Pl.eqCfg a b)) W := by
  have h : (Op.equalIn 10000 23 (cfgV a) (cfgV b)).run Tryd.prog W = .ok (Pl.eqCfg a b) W := by
    refine eqA_of Tryd.underlying23 (by kernel_rfl) ?_
    unfold Pl.eqCfg
    refine eqf_cons (a := .int .u8 (a.fmt.toNat : Int)) (b := .int .u8 (b.fmt.toNat : Int)) (by decide) (by kernel_rfl) (by kernel_rfl) (run_equalIn_int W _ 5 .u8 .u8 (a.fmt.toNat : Int) (b.fmt.toNat : Int) Tryd.underlying5) ?_
    refine eqf_cons (a := .bool a.num) (b := .bool b.num) (by decide) (by kernel_rfl) (by kernel_rfl) (run_equalIn_bool' W _ 4 a.num b.num Tryd.underlying4) ?_
    refine eqf_cons (a := .bool a.skip) (b := .bool b.skip) (by decide) (by kernel_rfl) (by kernel_rfl) (run_equalIn_bool' W _ 4 a.skip b.skip Tryd.underlying4) ?_
    refine eqf_cons (a := .bool a.both) (b := .bool b.both) (by decide) (by kernel_rfl) (by kernel_rfl) (run_equalIn_bool' W _ 4 a.both b.both Tryd.underlying4) ?_
    refine eqf_cons (a := .bool a.loops) (b := .bool b.loops) (by decide) (by kernel_rfl) (by kernel_rfl) (run_equalIn_bool' W _ 4 a.loops b.loops Tryd.underlying4) ?_
    refine eqf_cons (a := .bool a.back) (b := .bool b.back) (by decide) (by kernel_rfl) (by kernel_rfl) (run_equalIn_bool' W _ 4 a.back b.back Tryd.underlying4) ?_
    refine eqf_cons (a := .int .i64 a.bud) (b := .int .i64 b.bud) (by decide) (by kernel_rfl) (by kernel_rfl) (run_equalIn_int W _ 3 .i64 .i64 a.bud b.bud Tryd.underlying3) ?_
    refine eqf_cons (a := .int .i64 a.fan) (b := .int .i64 b.fan) (by decide) (by kernel_rfl) (by kernel_rfl) (run_equalIn_int W _ 3 .i64 .i64 a.fan b.fan Tryd.underlying3) ?_
    exact eqf_last (a := .int .i64 a.sha) (b := .int .i64 b.sha) (by decide) (by kernel_rfl) (by kernel_rfl) (run_equalIn_int W _ 3 .i64 .i64 a.sha b.sha Tryd.underlying3)
  rw [run_eql_struct, h]
  rfl
end Go.Proofs.YtfppbkpdpapemaaDoor
/-! creelref20.Same: of equal sheets. -/
set_option linter.unusedSimpArgs false
set_option linter.unusedVariables false
namespace Go.Proofs.YtfppbkpdpapemaaDoor
open Go.RowKit Go.Proofs.YtfppbkpdpapemaaDoorW.PrintWords Go.Proofs.YtfppbkpdpapemaaDoorW.PrintLast Go.Proofs.YtfppbkpdpapemaaDoorW.PrintMore

theorem neq_of_eql {P : Program} {t : TypeId} {xs ys : Array Value} {b : Bool} {W : World} (h : (binOp .eql t (.agg xs) (.agg ys)).run P W = .ok (.bool b) W) : (binOp .neq t (.agg xs) (.agg ys)).run P W = .ok (.bool (!b)) W := by
  rw [run_eql_struct] at h
  rw [run_neq_struct]
  rcases hr : (Op.equalIn 10000 t (.agg xs) (.agg ys)).run P W with ⟨x, w'⟩ | _ | _
  all_goals rw [hr] at h
  all_goals try simp only [Result.andThen_ok] at h ⊢
  all_goals first
    | (injection h with h1 h2; injection h1 with h1; rw [h1, h2])
    | cases h
theorem neq_cfg_same (a : Pl.Cfg) (W : World) : (binOp .neq 23 (cfgV a) (cfgV a)).run Tryd.prog W = .ok (.bool false) W := by
  have := neq_of_eql (eq_cfg a a W)
  rw [Pl.eqCfg_iff] at this
  simpa using this
theorem neq_file_same (n : List UInt8) (l s : Int) (W : World) : (binOp .neq 57 (.agg #[strV n, .int .i64 l, .int .u32 s]) (.agg #[strV n, .int .i64 l, .int .u32 s])).run Tryd.prog W = .ok (.bool false) W := by
  have h : (Op.equalIn 10000 57 (.agg #[strV n, .int .i64 l, .int .u32 s]) (.agg #[strV n, .int .i64 l, .int .u32 s])).run Tryd.prog W = .ok (((⟨n.toArray⟩ : ByteArray).toList == (⟨n.toArray⟩ : ByteArray).toList) && ((l == l) && (s == s))) W := by
    refine eqA_of Tryd.underlying57 (by kernel_rfl) ?_
    refine eqf_cons (a := strV n) (b := strV n) (by decide) (by kernel_rfl) (by kernel_rfl) (run_equalIn_string W _ 9 ⟨n.toArray⟩ ⟨n.toArray⟩ Tryd.underlying9) ?_
    refine eqf_cons (a := .int .i64 l) (b := .int .i64 l) (by decide) (by kernel_rfl) (by kernel_rfl) (run_equalIn_int W _ 3 .i64 .i64 l l Tryd.underlying3) ?_
    exact eqf_last (a := .int .u32 s) (b := .int .u32 s) (by decide) (by kernel_rfl) (by kernel_rfl) (run_equalIn_int W _ 30 .u32 .u32 s s Tryd.underlying30)
  rw [run_neq_struct, h]
  simp

set_option maxRecDepth 100000 in
set_option maxHeartbeats 4000000 in
theorem rsame20_any (s : Pl.Sheet) (va vb : Value) (w : World) (ha : Rd kFile w va s.files) (hb : Rd kFile w vb s.files) : Calls Tryd.prog 20 #[sheetV s va, sheetV s vb] w fun e w' => e = .returned (.bool true) ∧ Below w.heap.size w w' := by
  have HA := Lib.hid ha
  have HB := Lib.hid hb
  obtain ⟨A, ca, rfl, hca, hFa⟩ := ha
  obtain ⟨B, cb, rfl, hcb, hFb⟩ := hb
  have hmx := Kd.F_max hFa
  have hneq := fun W => neq_cfg_same s.c W
  clear hFa hFb
  go_enter Tryd.func20, Tryd.ntmps20
  go_wp2_with fail
  refine wp_at fun W1 hW1 => ?_
  have K1 : Blk W1 w.heap.size (sheetC s (.slice A s.files.length ca)) 38 := by rw [← hW1]; exact (Blk.new _ _ _).alloc _
  have K2 : Blk W1 (w.heap.size + 1) (sheetC s (.slice B s.files.length cb)) 38 := by
    rw [← hW1]
    have := Blk.new (w.alloc (.cells (sheetC s (.slice A s.files.length ca)) 38)) (sheetC s (.slice B s.files.length cb)) 38
    rw [World.size_alloc] at this
    exact this
  have HB1 := Lib.hid (show Below w.heap.size w W1 by rw [← hW1]; exact below_alloc (below_alloc (Below.refl _ _) _) _)
  have HK1 := Lib.hid K1
  have HK2 := Lib.hid K2
  clear hW1 K1 K2 hneq
  obtain ⟨fs, hfs⟩ : ∃ fs, s.files = fs := ⟨_, rfl⟩
  rw [hfs] at HA HB HK1 HK2 hca hcb hmx ⊢
  clear hfs
  go_loopw [5] (fun i wr => ∃ k : Nat, i = .int .i64 (k : Int) ∧ Aside0 (k ≤ fs.length) ∧ Aside0 (Below W1.heap.size W1 wr)) (fun i _ => fs.length - (intOf i).toNat)
  case atStart => exact ⟨0, rfl, ⟨by omega⟩, ⟨Below.refl _ _⟩⟩
  case round =>
    obtain ⟨k, rfl, hk, hB⟩ := hrel
    have q0 : wr.cell? ⟨w.heap.size, 11, none⟩ = some (.slice A fs.length ca) := (HK1.out.belowW hB.out).cell.1 11
    have q1 : wr.cell? ⟨w.heap.size + 1, 11, none⟩ = some (.slice B fs.length cb) := (HK2.out.belowW hB.out).cell.1 11
    have HBB := Lib.hid (bthen HB1.out hB.out)
    by_cases hlt : k < fs.length
    · obtain ⟨⟨fn, fl, fsm⟩, hf⟩ : ∃ f, fs[k]? = some f := ⟨_, List.getElem?_eq_getElem hlt⟩
      obtain ⟨ad, hAa, x0, x1, x2⟩ := file_get (Kd.V_at (Rd.below HA.out HBB.out)).2.2 k _ hf
      obtain ⟨bd, hBb, y0, y1, y2⟩ := file_get (Kd.V_at (Rd.below HB.out HBB.out)).2.2 k _ hf
      subst hAa hBb
      simp only at x0 x1 x2 y0 y1 y2
      have hdk : decide ((k : Int) < (fs.length : Int)) = true := by simp; omega
      have r1 : (0 : Int) ≤ (k : Int) := by omega
      have r2 : (k : Int) < (fs.length : Int) := by omega
      have hnf := fun W => neq_file_same fn fl fsm W
      have HX := Lib.hid (⟨q0, q1, x0, x1, x2, y0, y1, y2⟩ : wr.drew.cell? ⟨w.heap.size, 11, none⟩ = some (.slice (some ad) fs.length ca) ∧ wr.drew.cell? ⟨w.heap.size + 1, 11, none⟩ = some (.slice (some bd) fs.length cb) ∧ wr.drew.cell? (ad.add (k * 3)) = some (strV fn) ∧ wr.drew.cell? ⟨(ad.add (k * 3)).block, (ad.add (k * 3)).off + 1, none⟩ = some (.int .i64 fl) ∧ wr.drew.cell? ⟨(ad.add (k * 3)).block, (ad.add (k * 3)).off + 2, none⟩ = some (.int .u32 fsm) ∧ wr.drew.cell? (bd.add (k * 3)) = some (strV fn) ∧ wr.drew.cell? ⟨(bd.add (k * 3)).block, (bd.add (k * 3)).off + 1, none⟩ = some (.int .i64 fl) ∧ wr.drew.cell? ⟨(bd.add (k * 3)).block, (bd.add (k * 3)).off + 2, none⟩ = some (.int .u32 fsm))
      clear hf x0 x1 x2 y0 y1 y2
      go_wp2_with fail
      go_region_held3 (fun W => W.cell? ⟨w.heap.size, 11, none⟩ = some (.slice (some ad) fs.length ca) ∧ W.cell? ⟨w.heap.size + 1, 11, none⟩ = some (.slice (some bd) fs.length cb) ∧ W.cell? (ad.add (k * 3)) = some (strV fn) ∧ W.cell? ⟨(ad.add (k * 3)).block, (ad.add (k * 3)).off + 1, none⟩ = some (.int .i64 fl) ∧ W.cell? ⟨(ad.add (k * 3)).block, (ad.add (k * 3)).off + 2, none⟩ = some (.int .u32 fsm) ∧ W.cell? (bd.add (k * 3)) = some (strV fn) ∧ W.cell? ⟨(bd.add (k * 3)).block, (bd.add (k * 3)).off + 1, none⟩ = some (.int .i64 fl) ∧ W.cell? ⟨(bd.add (k * 3)).block, (bd.add (k * 3)).off + 2, none⟩ = some (.int .u32 fsm)) (first | exact HX.out) (first | fail)
      go_wp2_with fail
      go_roundw
      case rel => exact ⟨k + 1, by go_num, ⟨by omega⟩, ⟨hB.out.drew⟩⟩
      case measure => simp [intOf]; omega
    · obtain rfl : k = fs.length := by have := hk.out; omega
      have hdk : decide ((fs.length : Int) < (fs.length : Int)) = false := by simp
      go_wp2_with fail
      go_ret
      exact ⟨rfl, HBB.out⟩
end Go.Proofs.YtfppbkpdpapemaaDoor
