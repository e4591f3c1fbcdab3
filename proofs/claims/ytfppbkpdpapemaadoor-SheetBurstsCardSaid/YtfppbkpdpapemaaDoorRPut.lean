import Derived.Test.YtfppbkpdpapemaaDoorBase
import Derived.Test.YtfppbkpdpapemaaDoorCfgKit
/-! creelref01.Put. -/
set_option linter.unusedSimpArgs false
set_option linter.unusedVariables false
namespace Go.Proofs.YtfppbkpdpapemaaDoor
open Go.RowKit Go.Proofs.YtfppbkpdpapemaaDoorW.PrintWords Go.Proofs.YtfppbkpdpapemaaDoorW.PrintLast Go.Proofs.YtfppbkpdpapemaaDoorW.PrintMore

set_option maxRecDepth 100000 in
set_option maxHeartbeats 1000000 in
theorem rput_any (v : Value) (l0 : List UInt8) (n : Nat) (w : World) (hv : Rd kb w v l0) (hn : n < 18446744073709551616) (hl : l0.length ≤ 1099511627776) :
    Calls Tryd.prog 29 #[v, .int .u64 (n : Int)] w fun e w' => ∃ v' : Value, e = .returned v' ∧ Own kb 5 w' w.heap.size v' (l0 ++ Pl.putB n) ∧ Below w.heap.size w w' := by
  have HR := Lib.hid hv
  have HN := Lib.hid (Pl.putB_len10 hn)
  have hn' : (n : Int) ≤ 18446744073709551615 := by omega
  clear hv hn
  have HL := lit_own w w.heap.size [] [] rfl (Nat.le_refl _) (by simp)
  have HB := below_alloc (Below.refl _ w) (.cells #[] 5)
  have HLH := Lib.hid HL
  have HBH := Lib.hid HB
  clear HL HB
  go_enter Tryd.func29, Tryd.ntmps29
  go_wp2_with ((with_reducible refine gate_builtin (b := .append) (xs := #[.tmp 6, .tmp 7]) rfl ?_); at_builtin; refine appN (w0 := w) w.heap.size rfl (.tmp 6) (.tmp 7) rfl _ v [] l0 rfl rfl HLH.out (Rd.below HR.out HBH.out) HBH.out HBH.out.size (by simp; omega) ?_; intro v5 w5 ho5 hb5 hg5 hat5; have HO1 := Lib.hid ho5; have HB1 := Lib.hid hb5; clear ho5 hb5 hg5 hat5)
  go_loopw [5, 1] (fun v i wr => ∃ (m : Nat) (pre : List UInt8), i = .int .u64 (m : Int) ∧ Aside0 (m < 18446744073709551616) ∧ Aside0 (l0 ++ Pl.putB n = pre ++ Pl.putB m) ∧ Aside0 (Own kb 5 wr w.heap.size v pre) ∧ Aside0 (Below w.heap.size w wr)) (fun _ i _ => (intOf i).toNat)
  case atStart => exact ⟨n, l0, rfl, ⟨by omega⟩, ⟨rfl⟩, ⟨HO1.out⟩, ⟨HB1.out⟩⟩
  case round =>
    obtain ⟨m, pre, rfl, hm, hpre, HO, HB⟩ := hrel
    have hp8 : pre.length ≤ 1099511627786 := by
      have h1 := congrArg List.length hpre.out
      rw [List.length_append, List.length_append] at h1
      have := HN.out
      omega
    have hm' : (m : Int) ≤ 18446744073709551615 := by have := hm.out; omega
    by_cases h : m < 128
    · have hd : decide ((127 : Int) < (m : Int)) = false := by simp; omega
      have e1 : (((UInt8.ofNat m).toNat : Nat) : Int) = (m : Int) := by simp; omega
      have HE := Lib.hid e1
      clear e1
      go_wp2_with ((with_reducible refine gate_builtin (b := .append) (xs := #[.tmp 20, .tmp 23]) rfl ?_); at_builtin; refine app1 (w0 := w) w.heap.size rfl (.tmp 20) (.tmp 23) rfl _ pre (UInt8.ofNat m) _ ?hi rfl rfl HO.out HB.out HB.out.size (by omega) ?_; (case hi => exact HE.out.symm); intro v5 w5 ho5 hb5 hg5 hat5)
      go_ret
      exact ⟨_, rfl, by rw [hpre.out, Pl.putB_small h]; exact ho5, hb5⟩
    · have hd : decide ((127 : Int) < (m : Int)) = true := by simp; omega
      have e2 : (m : Int) % 128 + 128 = ((UInt8.ofNat (m % 128 + 128)).toNat : Int) := by simp; omega
      have HE := Lib.hid e2
      clear e2
      go_wp2_with ((with_reducible refine gate_builtin (b := .append) (xs := #[.tmp 11, .tmp 16]) rfl ?_); at_builtin; refine app1 (w0 := w) w.heap.size rfl (.tmp 11) (.tmp 16) rfl _ pre (UInt8.ofNat (m % 128 + 128)) _ ?hi rfl rfl HO.out HB.out HB.out.size (by omega) ?_; (case hi => exact HE.out); intro v5 w5 ho5 hb5 hg5 hat5)
      go_roundw
      case rel => exact ⟨m / 128, _, by go_num, ⟨by have := hm.out; omega⟩, ⟨by rw [hpre.out, Pl.putB_big h]; simp⟩, ⟨ho5⟩, ⟨hb5⟩⟩
      case measure => simp [intOf] <;> omega
theorem rput_int (v : Value) (l0 : List UInt8) (z : Int) (w : World) (hv : Rd kb w v l0) (h0 : 0 ≤ z) (h1 : z < 18446744073709551616) (hl : l0.length ≤ 1099511627776) :
    Calls Tryd.prog 29 #[v, .int .u64 z] w fun e w' => ∃ v' : Value, e = .returned v' ∧ Own kb 5 w' w.heap.size v' (l0 ++ Pl.putB z.toNat) ∧ Below w.heap.size w w' := by
  have := rput_any v l0 z.toNat w hv (by omega) hl
  rw [show ((z.toNat : Nat) : Int) = z by omega] at this
  exact this
end Go.Proofs.YtfppbkpdpapemaaDoor
