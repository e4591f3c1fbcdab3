import Derived.Test.YtfppbkpdpapemaaDoorBase
import Derived.Test.YtfppbkpdpapemaaDoorCfgKit
/-! vary.Put, vary.Fix. -/
namespace Go.Proofs.YtfppbkpdpapemaaDoor
open Go.RowKit Go.Proofs.YtfppbkpdpapemaaDoorW.PrintWords Go.Proofs.YtfppbkpdpapemaaDoorW.PrintLast Go.Proofs.YtfppbkpdpapemaaDoorW.PrintMore

theorem or128 (m : Nat) : bits BinOp.or IntKind.u8 ((m : Int) % 256) 128 = ((UInt8.ofNat (m % 128 + 128)).toNat : Int) := by
  have key : ∀ k : Fin 256, bits BinOp.or IntKind.u8 (k.val : Int) 128 = ((k.val % 128 + 128 : Nat) : Int) := by decide +kernel
  have := key ⟨m % 256, by omega⟩
  simp only [Int.natCast_emod] at this
  rw [show ((m : Int) % 256) = ((m : Int) % ((256 : Nat) : Int)) from rfl, this]
  simp
  omega
set_option maxRecDepth 100000 in
theorem put_any (v : Value) (l0 : List UInt8) (n : Nat) (w : World) (hv : Rd kb w v l0) (hn : n < 18446744073709551616) (hl : l0.length ≤ 1099511627776) :
    Calls Tryd.prog 24 #[v, .int .u64 (n : Int)] w fun e w' => ∃ v' : Value, e = .returned v' ∧ Own kb 5 w' w.heap.size v' (l0 ++ Pl.putB n) ∧ Below w.heap.size w w' := by
  have HR := Lib.hid hv
  have HN := Lib.hid (Pl.putB_len10 hn)
  have hn' : (n : Int) ≤ 18446744073709551615 := by omega
  clear hv hn
  go_enter Tryd.func24, Tryd.ntmps24
  go_wp2_with (go_at_call 42; refine (clone_any _ _ _ HR.out (by omega)).mono ?_; rintro e w1 ⟨v1, rfl, ho1, hb1⟩; have HO1 := Lib.hid ho1; have HB1 := Lib.hid hb1; clear ho1 hb1)
  go_loopw [5, 1] (fun v i wr => ∃ (m : Nat) (pre : List UInt8), i = .int .u64 (m : Int) ∧ Aside0 (m < 18446744073709551616) ∧ Aside0 (l0 ++ Pl.putB n = pre ++ Pl.putB m) ∧ Aside0 (Own kb 5 wr w.heap.size v pre) ∧ Aside0 (Below w.heap.size w wr)) (fun _ i _ => (intOf i).toNat)
  case atStart => exact ⟨n, l0, rfl, ⟨by omega⟩, ⟨rfl⟩, ⟨HO1.out⟩, ⟨HB1.out⟩⟩
  case round =>
    obtain ⟨m, pre, rfl, hm, hpre, HO, HB⟩ := hrel
    have hp8 : pre.length ≤ 1099511627786 := by
      have h1 := congrArg List.length hpre.out
      rw [List.length_append, List.length_append] at h1
      have := HN.out
      omega
    have hm' : (m : Int) ≤ 18446744073709551615 := by have := hm.out; omega
    by_cases h : m < 128
    · have hd : decide ((128 : Int) ≤ (m : Int)) = false := by simp; omega
      have e1 : (((UInt8.ofNat m).toNat : Nat) : Int) = (m : Int) := by simp; omega
      have HE := Lib.hid e1
      clear e1
      go_wp2_with ((with_reducible refine gate_builtin (b := .append) (xs := #[.tmp 18, .tmp 21]) rfl ?_); at_builtin; refine app1 (w0 := w) w.heap.size rfl (.tmp 18) (.tmp 21) rfl _ pre (UInt8.ofNat m) _ ?hi rfl rfl HO.out HB.out HB.out.size (by omega) ?_; (case hi => exact HE.out.symm); intro v5 w5 ho5 hb5 hg5 hat5)
      go_ret
      exact ⟨_, rfl, by rw [hpre.out, Pl.putB_small h]; exact ho5, hb5⟩
    · have hd : decide ((128 : Int) ≤ (m : Int)) = true := by simp; omega
      go_wp2_with ((with_reducible refine gate_builtin (b := .append) (xs := #[.tmp 12, .tmp 16]) rfl ?_); at_builtin; refine app1 (w0 := w) w.heap.size rfl (.tmp 12) (.tmp 16) rfl _ pre (UInt8.ofNat (m % 128 + 128)) _ ?hi rfl rfl HO.out HB.out HB.out.size (by omega) ?_; (case hi => exact or128 m); intro v5 w5 ho5 hb5 hg5 hat5)
      go_roundw
      case rel => exact ⟨m / 128, _, by go_num, ⟨by have := hm.out; omega⟩, ⟨by rw [hpre.out, Pl.putB_big h]; simp⟩, ⟨ho5⟩, ⟨hb5⟩⟩
      case measure => simp [intOf] <;> omega
theorem put_int (v : Value) (l0 : List UInt8) (z : Int) (w : World) (hv : Rd kb w v l0) (h0 : 0 ≤ z) (h1 : z < 18446744073709551616) (hl : l0.length ≤ 1099511627776) :
    Calls Tryd.prog 24 #[v, .int .u64 z] w fun e w' => ∃ v' : Value, e = .returned v' ∧ Own kb 5 w' w.heap.size v' (l0 ++ Pl.putB z.toNat) ∧ Below w.heap.size w w' := by
  have := put_any v l0 z.toNat w hv (by omega) hl
  rw [show ((z.toNat : Nat) : Int) = z by omega] at this
  exact this
set_option maxRecDepth 100000 in
theorem fix_any (v : Value) (l0 : List UInt8) (n s : Nat) (w : World) (hv : Rd kb w v l0) (hn : n < 18446744073709551616) (hs1 : 1 ≤ s) (hs8 : s ≤ 8) (hl : l0.length ≤ 1099511627776) :
    Calls Tryd.prog 23 #[v, .int .u64 (n : Int), .int .i64 (s : Int)] w fun e w' => ∃ v' : Value, e = .returned v' ∧ Own kb 5 w' w.heap.size v' (l0 ++ Pl.fixB s n) ∧ Below w.heap.size w w' := by
  have HR := Lib.hid hv
  clear hv
  have hd1 : decide ((s : Int) < 1) = false := by simp; omega
  have hd2 : decide ((8 : Int) < (s : Int)) = false := by simp; omega
  go_enter Tryd.func23, Tryd.ntmps23
  go_wp2_with (go_at_call 42; refine (clone_any _ _ _ HR.out (by omega)).mono ?_; rintro e w1 ⟨v1, rfl, ho1, hb1⟩; have HO1 := Lib.hid ho1; have HB1 := Lib.hid hb1; clear ho1 hb1)
  clear hd1 hd2
  have HN := Lib.hid hn
  clear hn
  go_loopw [7, 8] (fun v i wr => ∃ (k : Nat) (pre : List UInt8), i = .int .i64 ((k : Int) - 1) ∧ Aside0 (k ≤ s) ∧ Aside0 (l0 ++ Pl.fixB s n = pre ++ Pl.fixB k n) ∧ Aside0 (Own kb 5 wr w.heap.size v pre) ∧ Aside0 (Below w.heap.size w wr)) (fun _ i _ => (intOf i + 1).toNat)
  case atStart => exact ⟨s, l0, rfl, ⟨by omega⟩, ⟨rfl⟩, ⟨HO1.out⟩, ⟨HB1.out⟩⟩
  case round =>
    obtain ⟨k, pre, rfl, hk, hpre, HO, HB⟩ := hrel
    rcases k with _ | j
    · rw [show (((0 : Nat) : Int) - 1) = -1 by omega]
      go_wp2
      go_ret
      exact ⟨_, rfl, by rw [hpre.out]; simp [Pl.fixB]; exact HO.out, HB.out⟩
    · rw [show (((j + 1 : Nat) : Int) - 1) = (j : Int) by omega]
      have hj7 : j ≤ 7 := by have := hk.out; omega
      have hp8 : pre.length ≤ 1099511627784 := by
        have h1 := congrArg List.length hpre.out
        rw [List.length_append, List.length_append, Pl.fixB_len] at h1
        omega
      go_wp2_with ((with_reducible refine gate_builtin (b := .append) (xs := #[.tmp 24, .tmp 30]) rfl ?_); at_builtin; refine app1 (w0 := w) w.heap.size rfl (.tmp 24) (.tmp 30) rfl u7 pre (Pl.byteAt n j) _ (Pl.byteAt_int n j).symm rfl rfl HO.out HB.out HB.out.size (by omega) ?_; intro v5 w5 ho5 hb5 hg5 hat5)
      go_roundw
      case rel => exact ⟨j, _, by go_num, ⟨by have := hk.out; omega⟩, ⟨by rw [hpre.out]; simp [Pl.fixB]⟩, ⟨ho5⟩, ⟨hb5⟩⟩
      case measure => simp [intOf] <;> omega

end Go.Proofs.YtfppbkpdpapemaaDoor
