import Derived.Test.YtjdcejbblcbjpaaDoorBase
import Derived.Test.YtjdcejbblcbjpaaDoorPlain
/-! creelref01.Fix, creelref01.Put. -/
set_option linter.unusedSimpArgs false
set_option linter.unusedVariables false
namespace Go.Proofs.YtjdcejbblcbjpaaDoor
open Go.RowKit Go.Proofs.YtjdcejbblcbjpaaDoorW.PrintWords Go.Proofs.YtjdcejbblcbjpaaDoorW.PrintLast Go.Proofs.YtjdcejbblcbjpaaDoorW.PrintMore

set_option maxRecDepth 100000 in
set_option maxHeartbeats 1000000 in
theorem rfix_any (v : Value) (l0 : List UInt8) (n s : Nat) (w : World) (hv : Rd kb w v l0) (hn : n < 18446744073709551616) (hs1 : 1 ≤ s) (hs8 : s ≤ 8) (hl : l0.length ≤ 1099511627776) :
    Calls Tryd.prog 53 #[v, .int .u64 (n : Int), .int .i64 (s : Int)] w fun e w' => ∃ v' : Value, e = .returned v' ∧ Own kb 5 w' w.heap.size v' (l0 ++ Pl.fixB s n) ∧ Below w.heap.size w w' := by
  have HR := Lib.hid hv
  clear hv
  have hd1 : decide ((s : Int) < 1) = false := by simp; omega
  have hd2 : decide ((8 : Int) < (s : Int)) = false := by simp; omega
  have HL := lit_own w w.heap.size [] [] rfl (Nat.le_refl _) (by simp)
  have HB := below_alloc (Below.refl _ w) (.cells #[] 5)
  have HLH := Lib.hid HL
  have HBH := Lib.hid HB
  clear HL HB
  go_enter Tryd.func53, Tryd.ntmps53
  go_wp2_with ((with_reducible refine gate_builtin (b := .append) (xs := #[.tmp 11, .tmp 12]) rfl ?_); at_builtin; refine appN (w0 := w) w.heap.size rfl (.tmp 11) (.tmp 12) rfl _ v [] l0 rfl rfl HLH.out (Rd.below HR.out HBH.out) HBH.out HBH.out.size (by simp; omega) ?_; intro v5 w5 ho5 hb5 hg5 hat5; have HO5 := Lib.hid ho5; have HB5 := Lib.hid hb5; clear ho5 hb5 hg5 hat5)
  clear hd1 hd2
  have HN := Lib.hid hn
  clear hn
  go_loopw [7, 8] (fun v i wr => ∃ (k : Nat) (pre : List UInt8), i = .int .i64 ((k : Int) - 1) ∧ Aside0 (k ≤ s) ∧ Aside0 (l0 ++ Pl.fixB s n = pre ++ Pl.fixB k n) ∧ Aside0 (Own kb 5 wr w.heap.size v pre) ∧ Aside0 (Below w.heap.size w wr)) (fun _ i _ => (intOf i + 1).toNat)
  case atStart => exact ⟨s, l0, rfl, ⟨by omega⟩, ⟨rfl⟩, ⟨HO5.out⟩, ⟨HB5.out⟩⟩
  case round =>
    obtain ⟨k, pre, rfl, hk, hpre, HO, HB⟩ := hrel
    rcases k with _ | j
    · rw [show (((0 : Nat) : Int) - 1) = -1 by omega]
      go_wp2
      go_ret
      exact ⟨_, rfl, by rw [hpre.out]; simp [Pl.fixB]; exact HO.out, HB.out⟩
    · rw [show (((j + 1 : Nat) : Int) - 1) = (j : Int) by omega]
      have hj7 : j ≤ 7 := by have := hk.out; omega
      have hp8 : pre.length ≤ 1099511627784 := by
        have h1 := congrArg List.length hpre.out
        rw [List.length_append, List.length_append, Pl.fixB_len] at h1
        omega
      go_wp2_with fail
      go_loop [9, 10] (fun x i => ∃ m : Nat, i = .int .i64 (m : Int) ∧ x = .int .u64 (((n / 256 ^ m : Nat)) : Int) ∧ Aside0 (m ≤ j)) (fun _ i => j - (intOf i).toNat)
      case atStart => exact ⟨0, rfl, by simp, ⟨by omega⟩⟩
      case round =>
        obtain ⟨m, rfl, rfl, hm⟩ := hrel
        obtain ⟨x, hx⟩ : ∃ x, n / 256 ^ m = x := ⟨_, rfl⟩
        have HX := Lib.hid hx
        rw [hx]
        clear hx
        by_cases hlt : m < j
        · go_wp2
          go_round
          case rel => exact ⟨m + 1, by go_num, by rw [IntWalk.u64_in _ (by have h1 := HN.out; have h2 := Nat.div_le_self n (256 ^ m); have h3 := HX.out; omega), ← HX.out, Nat.pow_succ, ← Nat.div_div_eq_div_mul]; rfl, ⟨by omega⟩⟩
          case measure => simp [intOf]; omega
        · obtain rfl : m = j := by have := hm.out; omega
          have hbt : (x : Int) % 256 % 256 = ((Pl.byteAt n m).toNat : Int) := by
            rw [← HX.out]; simp [Pl.byteAt]
          have hbt1 : (x : Int) % 256 = ((Pl.byteAt n m).toNat : Int) := by
            rw [← HX.out]; simp [Pl.byteAt]
          have HT1 := Lib.hid hbt1
          clear hbt hbt1
          go_wp2_with ((with_reducible refine gate_builtin (b := .append) (xs := #[.tmp 35, .tmp 39]) rfl ?_); at_builtin; refine app1 (w0 := w) w.heap.size rfl (.tmp 35) (.tmp 39) rfl u7 pre (Pl.byteAt n m) _ HT1.out rfl rfl HO.out HB.out HB.out.size (by omega) ?_; intro v5 w5 ho5 hb5 hg5 hat5)
          go_roundw
          case rel => exact ⟨m, _, by go_num, ⟨by have := hk.out; omega⟩, ⟨by rw [hpre.out]; simp [Pl.fixB]⟩, ⟨ho5⟩, ⟨hb5⟩⟩
          case measure => simp [intOf] <;> omega
end Go.Proofs.YtjdcejbblcbjpaaDoor
