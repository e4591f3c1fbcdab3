import Derived.Test.YtchbfeejpdfmhaaBase
import Derived.Test.YtchbfeejpdfmhaaPlain
/-! edge.number, vary.Fix, edge.Label. -/
namespace Go.Proofs.Ytchbfeejpdfmhaa
open Go.RowKit Go.Proofs.YtchbfeejpdfmhaaW.PrintWords Go.Proofs.YtchbfeejpdfmhaaW.PrintLast Go.Proofs.YtchbfeejpdfmhaaW.PrintMore

/-- What number answers. -/
def NumSaid (l : List UInt8) (w : World) (e : Ending) (w' : World) : Prop := ∃ n : Int, e = .returned (.tuple #[.int .u64 n, .bool (Pl.numOk l)]) ∧ (Pl.numOk l = true → n = (Pl.val l : Int)) ∧ w = w'

set_option maxRecDepth 100000 in
theorem number_any (v : Value) (l : List UInt8) (w : World) (hv : Rd kb w v l) : Calls Try.prog 39 #[v] w (NumSaid l w) := by
  obtain ⟨A0, c0, rfl, hc0, HR0⟩ := hv
  have hm := Kd.F_max HR0
  have HR := Lib.hid HR0
  clear HR0
  by_cases hlen : l.length < 1 ∨ 10 < l.length
  · have hno : Pl.numOk l = false := by unfold Pl.numOk; simp; omega
    have HN := Lib.hid hno
    clear hno
    have hl : 1 ≤ l.length → 10 < l.length := by omega
    by_cases h1 : l.length < 1
    all_goals
      go_enter Try.func39, Try.ntmps39
      go_wp2
      go_ret2
      exact ⟨0, (by rw [HN.out]; rfl), fun h => (by rw [HN.out] at h; cases h), rfl⟩
  · have h1 : 1 ≤ l.length := by omega
    have h10 : l.length ≤ 10 := by omega
    clear hlen
    obtain ⟨ad, rfl, hc⟩ := kb_cell HR.out 0 h1
    obtain ⟨c, hcc⟩ : ∃ c, l.getD 0 0 = c := ⟨_, rfl⟩
    rw [hcc, show ad.add 0 = ad by simp [Addr.add]] at hc
    have HC := Lib.hid hcc
    clear hcc
    by_cases hz : c = 48 ∧ 1 < l.length
    · obtain ⟨rfl, h2⟩ := hz
      have hno : Pl.numOk l = false := by unfold Pl.numOk; rw [HC.out]; simp [h2]
      have HN := Lib.hid hno
      clear hno
      replace hc : w.cell? ad = some (.int .u8 48) := hc
      go_enter Try.func39, Try.ntmps39
      go_wp2
      go_ret2
      exact ⟨0, (by rw [HN.out]; rfl), fun h => (by rw [HN.out] at h; cases h), rfl⟩
    · have hz1 : (((c.toNat : Int) == 48) = true ∧ l.length ≤ 1) ∨ ((c.toNat : Int) == 48) = false := by
        rw [show ((c.toNat : Int) == 48) = (c == 48) from u8_beq c 48]
        by_cases hc0 : c = 48
        · exact .inl ⟨by simpa using hc0, Nat.le_of_not_lt fun h => hz ⟨hc0, h⟩⟩
        · exact .inr (by simpa using hc0)
      have Hz := Lib.hid hz
      have hd1 : decide ((l.length : Int) < 1) = false := by simp; omega
      have hd2 : decide ((10 : Int) < (l.length : Int)) = false := by simp; omega
      clear hz
      rcases hz1 with ⟨hz1, hz2⟩ | hz1
      all_goals
        try (have hd3 : decide ((1 : Int) < (l.length : Int)) = false := by simp; omega)
        go_enter Try.func39, Try.ntmps39
        go_wp2
        clear hd1 hd2 hz1
        try clear hd3
        go_loop [4, 28] (fun n i => ∃ k : Nat, i = .int .i64 (k : Int) ∧ n = .int .u64 (Pl.val (l.take k) : Int) ∧ Aside0 (k ≤ l.length ∧ (l.take k).all Pl.dig = true)) (fun _ i => l.length - (intOf i).toNat)
        case atStart => exact ⟨0, rfl, rfl, ⟨by omega, by simp⟩⟩
        case round =>
          obtain ⟨k, rfl, rfl, hk⟩ := hrel
          have hval : Pl.val (l.take k) < 10 ^ 10 := Nat.lt_of_lt_of_le (Pl.val_lt _ hk.out.2) (Nat.pow_le_pow_right (by decide) (by simp; omega))
          obtain ⟨x, hx⟩ : ∃ x, Pl.val (l.take k) = x := ⟨_, rfl⟩
          rw [hx] at hval
          have Hx := Lib.hid hx
          rw [hx]
          clear hx
          by_cases hlt : k < l.length
          · have hce := kb_cell' HR.out k hlt
            obtain ⟨b, hb⟩ : ∃ b, l.getD k 0 = b := ⟨_, rfl⟩
            rw [hb] at hce
            have Hb := Lib.hid hb
            clear hb
            by_cases hdg : Pl.dig b = true
            · have h48 := of_decide_eq_true hdg
              obtain ⟨h48a, h48b⟩ := h48
              have HD := Lib.hid hdg
              clear hdg
              have t1 : decide ((b.toNat : Int) < 48) = false := by simp; omega
              have t2 : decide ((57 : Int) < (b.toNat : Int)) = false := by simp; omega
              go_wp2
              go_round
              case rel =>
                refine ⟨k + 1, by go_num, ?_, ⟨by omega, Pl.all_take hlt (by rw [Hb.out]; exact HD.out) hk.out.2⟩⟩
                rw [Pl.take_snoc hlt, Pl.val_snoc, Hb.out, Hx.out]
                congr 1
                push_cast
                omega
              case measure => simp [intOf]; omega
            · have hno : Pl.numOk l = false := by
                unfold Pl.numOk
                rw [Pl.all_not hlt (by rw [Hb.out]; simpa using hdg)]
                simp
              have HN := Lib.hid hno
              have hdg' : b.toNat < 48 ∨ 57 < b.toNat := by
                have : ¬ (48 ≤ b.toNat ∧ b.toNat ≤ 57) := fun h => hdg (decide_eq_true h)
                omega
              clear hno hdg
              rcases hdg' with h | h
              · have t1 : decide ((b.toNat : Int) < 48) = true := by simp; omega
                go_wp2
                go_ret2
                exact ⟨0, (by rw [HN.out]; rfl), fun h => (by rw [HN.out] at h; cases h), rfl⟩
              · have t1 : decide ((b.toNat : Int) < 48) = false := by simp; omega
                have t2 : decide ((57 : Int) < (b.toNat : Int)) = true := by simp; omega
                go_wp2
                go_ret2
                exact ⟨0, (by rw [HN.out]; rfl), fun h => (by rw [HN.out] at h; cases h), rfl⟩
          · have hall : (l.take k) = l := List.take_of_length_le (by omega)
            have hfin : Pl.numOk l = decide (x < 4294967296) := by
              have h2 := hk.out.2
              have h3 := Hx.out
              rw [hall] at h2 h3
              rw [Pl.numOk_of h1 h10 (by rw [HC.out]; exact Hz.out) h2, h3]
            have hx2 : Pl.val l = x := by have h3 := Hx.out; rw [hall] at h3; exact h3
            have HF := Lib.hid hfin
            have HX2 := Lib.hid hx2
            clear hall hfin hx2
            go_wp2
            go_ret2
            exact ⟨x, (by rw [HF.out]; simp; omega), fun _ => (by rw [HX2.out]), rfl⟩
end Go.Proofs.Ytchbfeejpdfmhaa
