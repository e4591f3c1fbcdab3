import Derived.Test.YtjdcejbblcbjpaaDoorLabel
import Derived.Test.YtjdcejbblcbjpaaDoorRFix
/-! creelref01.Fix, creelref08.Label. -/
set_option linter.unusedSimpArgs false
set_option linter.unusedVariables false
namespace Go.Proofs.YtjdcejbblcbjpaaDoor
open Go.RowKit Go.Proofs.YtjdcejbblcbjpaaDoorW.PrintWords Go.Proofs.YtjdcejbblcbjpaaDoorW.PrintLast Go.Proofs.YtjdcejbblcbjpaaDoorW.PrintMore

set_option maxRecDepth 100000 in
set_option maxHeartbeats 1000000 in
theorem rlabel_num (v : Value) (l : List UInt8) (w : World) (hv : Rd kb w v l) : Calls Tryd.prog 37 #[v, .bool true] w (OptSaid (Pl.label l true) w) := by
  obtain ⟨A0, c0, rfl, hc0, HR0⟩ := hv
  have hm := Kd.F_max HR0
  have HR := Lib.hid HR0
  clear HR0
  by_cases hlen : l.length < 1 ∨ 10 < l.length
  · have hno : Pl.numOk l = false := by unfold Pl.numOk; simp; omega
    rw [Pl.label_num_none hno]
    clear hno
    have hl : (l.length < 1) ∨ (1 ≤ l.length ∧ 10 < l.length) := by omega
    clear hlen
    rcases hl with h1 | ⟨h1, h2⟩
    · have hd1 : decide ((l.length : Int) < 1) = true := by simp; omega
      go_enter Tryd.func37, Tryd.ntmps37
      go_wp2
      go_ret2
      exact ⟨_, rfl, Own.nil _ _ _ _, Below.refl _ _⟩
    · have hd1 : decide ((l.length : Int) < 1) = false := by simp; omega
      have hd2 : decide ((10 : Int) < (l.length : Int)) = true := by simp; omega
      go_enter Tryd.func37, Tryd.ntmps37
      go_wp2
      go_ret2
      exact ⟨_, rfl, Own.nil _ _ _ _, Below.refl _ _⟩
  · have h1 : 1 ≤ l.length := by omega
    have h10 : l.length ≤ 10 := by omega
    clear hlen
    obtain ⟨ad, rfl, hc⟩ := kb_cell HR.out 0 h1
    obtain ⟨c, hcc⟩ : ∃ c, l.getD 0 0 = c := ⟨_, rfl⟩
    rw [hcc, show ad.add 0 = ad by simp [Addr.add]] at hc
    have HC := Lib.hid hcc
    clear hcc
    have hd1 : decide ((l.length : Int) < 1) = false := by simp; omega
    have hd2 : decide ((10 : Int) < (l.length : Int)) = false := by simp; omega
    by_cases hz : c = 48 ∧ 1 < l.length
    · obtain ⟨rfl, h2⟩ := hz
      have hno : Pl.numOk l = false := by unfold Pl.numOk; rw [HC.out]; simp [h2]
      rw [Pl.label_num_none hno]
      clear hno
      replace hc : w.cell? ad = some (.int .u8 48) := hc
      go_enter Tryd.func37, Tryd.ntmps37
      go_wp2
      go_ret2
      exact ⟨_, rfl, Own.nil _ _ _ _, Below.refl _ _⟩
    · have hz1 : (((c.toNat : Int) == 48) = true ∧ l.length ≤ 1) ∨ ((c.toNat : Int) == 48) = false := by
        rw [show ((c.toNat : Int) == 48) = (c == 48) from u8_beq c 48]
        by_cases hc0 : c = 48
        · exact .inl ⟨by simpa using hc0, Nat.le_of_not_lt fun h => hz ⟨hc0, h⟩⟩
        · exact .inr (by simpa using hc0)
      have Hz := Lib.hid hz
      clear hz
      rcases hz1 with ⟨hz1, hz2⟩ | hz1
      all_goals
        try (have hd3 : decide ((1 : Int) < (l.length : Int)) = false := by simp; omega)
        go_enter Tryd.func37, Tryd.ntmps37
        go_wp2
        clear hd1 hd2 hz1
        try clear hd3
        go_loop [6, 7] (fun n i => ∃ k : Nat, i = .int .i64 (k : Int) ∧ n = .int .u64 (Pl.val (l.take k) : Int) ∧ Aside0 (k ≤ l.length ∧ (l.take k).all Pl.dig = true)) (fun _ i => l.length - (intOf i).toNat)
        case atStart => exact ⟨0, rfl, rfl, ⟨by omega, by simp⟩⟩
        case round =>
          obtain ⟨k, rfl, rfl, hk⟩ := hrel
          have hval : Pl.val (l.take k) < 10 ^ 10 := Nat.lt_of_lt_of_le (Pl.val_lt _ hk.out.2) (Nat.pow_le_pow_right (by decide) (by simp; omega))
          obtain ⟨x, hx⟩ : ∃ x, Pl.val (l.take k) = x := ⟨_, rfl⟩
          rw [hx] at hval
          have Hx := Lib.hid hx
          rw [hx]
          clear hx
          by_cases hlt : k < l.length
          · have hce := kb_cell' HR.out k hlt
            obtain ⟨b, hb⟩ : ∃ b, l.getD k 0 = b := ⟨_, rfl⟩
            rw [hb] at hce
            have Hb := Lib.hid hb
            clear hb
            by_cases hdg : Pl.dig b = true
            · have h48 := of_decide_eq_true hdg
              obtain ⟨h48a, h48b⟩ := h48
              have HD := Lib.hid hdg
              clear hdg
              have t1 : decide ((b.toNat : Int) < 48) = false := by simp; omega
              have t2 : decide ((57 : Int) < (b.toNat : Int)) = false := by simp; omega
              go_wp2
              go_round
              case rel =>
                refine ⟨k + 1, by go_num, ?_, ⟨by omega, Pl.all_take hlt (by rw [Hb.out]; exact HD.out) hk.out.2⟩⟩
                rw [Pl.take_snoc hlt, Pl.val_snoc, Hb.out, Hx.out]
                congr 1
                push_cast
                omega
              case measure => simp [intOf]; omega
            · have hno : Pl.numOk l = false := by
                unfold Pl.numOk
                rw [Pl.all_not hlt (by rw [Hb.out]; simpa using hdg)]
                simp
              have HN := Lib.hid hno
              have hdg' : b.toNat < 48 ∨ 57 < b.toNat := by
                have : ¬ (48 ≤ b.toNat ∧ b.toNat ≤ 57) := fun h => hdg (decide_eq_true h)
                omega
              clear hno hdg
              rcases hdg' with h | h
              · have t1 : decide ((b.toNat : Int) < 48) = true := by simp; omega
                go_wp2
                go_ret2
                rw [Pl.label_num_none HN.out]
                exact ⟨_, rfl, Own.nil _ _ _ _, Below.refl _ _⟩
              · have t1 : decide ((b.toNat : Int) < 48) = false := by simp; omega
                have t2 : decide ((57 : Int) < (b.toNat : Int)) = true := by simp; omega
                go_wp2
                go_ret2
                rw [Pl.label_num_none HN.out]
                exact ⟨_, rfl, Own.nil _ _ _ _, Below.refl _ _⟩
          · have hall : (l.take k) = l := List.take_of_length_le (by omega)
            have hfin : Pl.numOk l = decide (x < 4294967296) := by
              have h2 := hk.out.2
              have h3 := Hx.out
              rw [hall] at h2 h3
              rw [Pl.numOk_of h1 h10 (by rw [HC.out]; exact Hz.out) h2, h3]
            have hx2 : Pl.val l = x := by have h3 := Hx.out; rw [hall] at h3; exact h3
            have HX2 := Lib.hid hx2
            by_cases hbig : x < 4294967296
            · rw [decide_eq_true hbig] at hfin
              have HF := Lib.hid hfin
              have hq : decide ((4294967296 : Int) ≤ (x : Int)) = false := by simp; omega
              have HBig := Lib.hid (show x < 18446744073709551616 by omega)
              clear hall hfin hx2 hbig hval
              go_wp2_with (go_at_call 53; refine (rfix_any _ [] x 4 _ (Rd.nil _ _) HBig.out (by omega) (by omega) (by simp)).mono ?_; rintro e w1 ⟨v1, rfl, ho1, hb1⟩; have HO1 := Lib.hid ho1; have HB1 := Lib.hid hb1; clear ho1 hb1)
              go_ret2
              rw [Pl.label_num_some HF.out, HX2.out]
              exact ⟨_, rfl, HO1.out, HB1.out⟩
            · rw [decide_eq_false hbig] at hfin
              have HF := Lib.hid hfin
              have hq : decide ((4294967296 : Int) ≤ (x : Int)) = true := by simp; omega
              clear hall hfin hx2 hbig hval
              go_wp2
              go_ret2
              rw [Pl.label_num_none HF.out]
              exact ⟨_, rfl, Own.nil _ _ _ _, Below.refl _ _⟩

theorem rlabel_any (v : Value) (l : List UInt8) (num : Bool) (w : World) (hv : Rd kb w v l) : Calls Tryd.prog 37 #[v, .bool num] w (OptSaid (Pl.label l num) w) := by
  cases num with
  | true => exact rlabel_num v l w hv
  | false =>
    have HR := Lib.hid hv
    obtain ⟨A, c, rfl, hc, _⟩ := hv
    by_cases h : 1 ≤ l.length ∧ l.length ≤ 32
    · rw [Pl.label_some h]
      obtain ⟨h1, h2⟩ := h
      have hd1 : decide ((l.length : Int) < 1) = false := by simp; omega
      have hd2 : decide ((32 : Int) < (l.length : Int)) = false := by simp; omega
      have HL := lit_own w w.heap.size [] [] rfl (Nat.le_refl _) (by simp)
      have HB := below_alloc (Below.refl _ w) (.cells #[] 5)
      have HLH := Lib.hid HL
      have HBH := Lib.hid HB
      clear HL HB
      go_enter Tryd.func37, Tryd.ntmps37
      go_wp2_with ((with_reducible refine gate_builtin (b := .append) (xs := #[.tmp 18, .tmp 19]) rfl ?_); at_builtin; refine appN (w0 := w) w.heap.size rfl (.tmp 18) (.tmp 19) rfl _ _ [] l rfl rfl HLH.out (Rd.below HR.out HBH.out) HBH.out HBH.out.size (by simp; omega) ?_; intro v5 w5 ho5 hb5 hg5 hat5; have HO5 := Lib.hid ho5; have HB5 := Lib.hid hb5; clear ho5 hb5 hg5 hat5)
      go_ret2
      exact ⟨_, rfl, HO5.out, HB5.out⟩
    · rw [Pl.label_none h]
      have hn : (l.length < 1) ∨ (1 ≤ l.length ∧ 32 < l.length) := by omega
      clear h
      rcases hn with h1 | ⟨h1, h2⟩
      · have hd1 : decide ((l.length : Int) < 1) = true := by simp; omega
        go_enter Tryd.func37, Tryd.ntmps37
        go_wp2_with fail
        go_ret2
        exact ⟨_, rfl, Own.nil _ _ _ _, Below.refl _ _⟩
      · have hd1 : decide ((l.length : Int) < 1) = false := by simp; omega
        have hd2 : decide ((32 : Int) < (l.length : Int)) = true := by simp; omega
        go_enter Tryd.func37, Tryd.ntmps37
        go_wp2_with fail
        go_ret2
        exact ⟨_, rfl, Own.nil _ _ _ _, Below.refl _ _⟩
end Go.Proofs.YtjdcejbblcbjpaaDoor
