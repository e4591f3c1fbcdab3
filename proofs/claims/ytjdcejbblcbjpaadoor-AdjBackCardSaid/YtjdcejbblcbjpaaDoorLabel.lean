import Derived.Test.YtjdcejbblcbjpaaDoorBase
import Derived.Test.YtjdcejbblcbjpaaDoorPlain
/-! edge.number, vary.Fix, edge.Label. -/
namespace Go.Proofs.YtjdcejbblcbjpaaDoor
open Go.RowKit Go.Proofs.YtjdcejbblcbjpaaDoorW.PrintWords Go.Proofs.YtjdcejbblcbjpaaDoorW.PrintLast Go.Proofs.YtjdcejbblcbjpaaDoorW.PrintMore

/-- What number answers. -/
def NumSaid (l : List UInt8) (w : World) (e : Ending) (w' : World) : Prop := ∃ n : Int, e = .returned (.tuple #[.int .u64 n, .bool (Pl.numOk l)]) ∧ (Pl.numOk l = true → n = (Pl.val l : Int)) ∧ w = w'

set_option maxRecDepth 100000 in
theorem number_any (v : Value) (l : List UInt8) (w : World) (hv : Rd kb w v l) : Calls Tryd.prog 30 #[v] w (NumSaid l w) := by
  obtain ⟨A0, c0, rfl, hc0, HR0⟩ := hv
  have hm := Kd.F_max HR0
  have HR := Lib.hid HR0
  clear HR0
  by_cases hlen : l.length < 1 ∨ 10 < l.length
  · have hno : Pl.numOk l = false := by unfold Pl.numOk; simp; omega
    have HN := Lib.hid hno
    clear hno
    have hl : 1 ≤ l.length → 10 < l.length := by omega
    by_cases h1 : l.length < 1
    all_goals
      go_enter Tryd.func30, Tryd.ntmps30
      go_wp2
      go_ret2
      exact ⟨0, (by rw [HN.out]; rfl), fun h => (by rw [HN.out] at h; cases h), rfl⟩
  · have h1 : 1 ≤ l.length := by omega
    have h10 : l.length ≤ 10 := by omega
    clear hlen
    obtain ⟨ad, rfl, hc⟩ := kb_cell HR.out 0 h1
    obtain ⟨c, hcc⟩ : ∃ c, l.getD 0 0 = c := ⟨_, rfl⟩
    rw [hcc, show ad.add 0 = ad by simp [Addr.add]] at hc
    have HC := Lib.hid hcc
    clear hcc
    by_cases hz : c = 48 ∧ 1 < l.length
    · obtain ⟨rfl, h2⟩ := hz
      have hno : Pl.numOk l = false := by unfold Pl.numOk; rw [HC.out]; simp [h2]
      have HN := Lib.hid hno
      clear hno
      replace hc : w.cell? ad = some (.int .u8 48) := hc
      go_enter Tryd.func30, Tryd.ntmps30
      go_wp2
      go_ret2
      exact ⟨0, (by rw [HN.out]; rfl), fun h => (by rw [HN.out] at h; cases h), rfl⟩
    · have hz1 : (((c.toNat : Int) == 48) = true ∧ l.length ≤ 1) ∨ ((c.toNat : Int) == 48) = false := by
        rw [show ((c.toNat : Int) == 48) = (c == 48) from u8_beq c 48]
        by_cases hc0 : c = 48
        · exact .inl ⟨by simpa using hc0, Nat.le_of_not_lt fun h => hz ⟨hc0, h⟩⟩
        · exact .inr (by simpa using hc0)
      have Hz := Lib.hid hz
      have hd1 : decide ((l.length : Int) < 1) = false := by simp; omega
      have hd2 : decide ((10 : Int) < (l.length : Int)) = false := by simp; omega
      clear hz
      rcases hz1 with ⟨hz1, hz2⟩ | hz1
      all_goals
        try (have hd3 : decide ((1 : Int) < (l.length : Int)) = false := by simp; omega)
        go_enter Tryd.func30, Tryd.ntmps30
        go_wp2
        clear hd1 hd2 hz1
        try clear hd3
        go_loop [4, 28] (fun n i => ∃ k : Nat, i = .int .i64 (k : Int) ∧ n = .int .u64 (Pl.val (l.take k) : Int) ∧ Aside0 (k ≤ l.length ∧ (l.take k).all Pl.dig = true)) (fun _ i => l.length - (intOf i).toNat)
        case atStart => exact ⟨0, rfl, rfl, ⟨by omega, by simp⟩⟩
        case round =>
          obtain ⟨k, rfl, rfl, hk⟩ := hrel
          have hval : Pl.val (l.take k) < 10 ^ 10 := Nat.lt_of_lt_of_le (Pl.val_lt _ hk.out.2) (Nat.pow_le_pow_right (by decide) (by simp; omega))
          obtain ⟨x, hx⟩ : ∃ x, Pl.val (l.take k) = x := ⟨_, rfl⟩
          rw [hx] at hval
          have Hx := Lib.hid hx
          rw [hx]
          clear hx
          by_cases hlt : k < l.length
          · have hce := kb_cell' HR.out k hlt
            obtain ⟨b, hb⟩ : ∃ b, l.getD k 0 = b := ⟨_, rfl⟩
            rw [hb] at hce
            have Hb := Lib.hid hb
            clear hb
            by_cases hdg : Pl.dig b = true
            · have h48 := of_decide_eq_true hdg
              obtain ⟨h48a, h48b⟩ := h48
              have HD := Lib.hid hdg
              clear hdg
              have t1 : decide ((b.toNat : Int) < 48) = false := by simp; omega
              have t2 : decide ((57 : Int) < (b.toNat : Int)) = false := by simp; omega
              go_wp2
              go_round
              case rel =>
                refine ⟨k + 1, by go_num, ?_, ⟨by omega, Pl.all_take hlt (by rw [Hb.out]; exact HD.out) hk.out.2⟩⟩
                rw [Pl.take_snoc hlt, Pl.val_snoc, Hb.out, Hx.out]
                congr 1
                push_cast
                omega
              case measure => simp [intOf]; omega
            · have hno : Pl.numOk l = false := by
                unfold Pl.numOk
                rw [Pl.all_not hlt (by rw [Hb.out]; simpa using hdg)]
                simp
              have HN := Lib.hid hno
              have hdg' : b.toNat < 48 ∨ 57 < b.toNat := by
                have : ¬ (48 ≤ b.toNat ∧ b.toNat ≤ 57) := fun h => hdg (decide_eq_true h)
                omega
              clear hno hdg
              rcases hdg' with h | h
              · have t1 : decide ((b.toNat : Int) < 48) = true := by simp; omega
                go_wp2
                go_ret2
                exact ⟨0, (by rw [HN.out]; rfl), fun h => (by rw [HN.out] at h; cases h), rfl⟩
              · have t1 : decide ((b.toNat : Int) < 48) = false := by simp; omega
                have t2 : decide ((57 : Int) < (b.toNat : Int)) = true := by simp; omega
                go_wp2
                go_ret2
                exact ⟨0, (by rw [HN.out]; rfl), fun h => (by rw [HN.out] at h; cases h), rfl⟩
          · have hall : (l.take k) = l := List.take_of_length_le (by omega)
            have hfin : Pl.numOk l = decide (x < 4294967296) := by
              have h2 := hk.out.2
              have h3 := Hx.out
              rw [hall] at h2 h3
              rw [Pl.numOk_of h1 h10 (by rw [HC.out]; exact Hz.out) h2, h3]
            have hx2 : Pl.val l = x := by have h3 := Hx.out; rw [hall] at h3; exact h3
            have HF := Lib.hid hfin
            have HX2 := Lib.hid hx2
            clear hall hfin hx2
            go_wp2
            go_ret2
            exact ⟨x, (by rw [HF.out]; simp; omega), fun _ => (by rw [HX2.out]), rfl⟩
end Go.Proofs.YtjdcejbblcbjpaaDoor
/-! vary.Fix, edge.Label. -/
namespace Go.Proofs.YtjdcejbblcbjpaaDoor
open Go.RowKit Go.Proofs.YtjdcejbblcbjpaaDoorW.PrintWords Go.Proofs.YtjdcejbblcbjpaaDoorW.PrintLast Go.Proofs.YtjdcejbblcbjpaaDoorW.PrintMore

set_option maxRecDepth 100000 in
theorem fix_any (v : Value) (l0 : List UInt8) (n s : Nat) (w : World) (hv : Rd kb w v l0) (hn : n < 18446744073709551616) (hs1 : 1 ≤ s) (hs8 : s ≤ 8) (hl : l0.length ≤ 1099511627776) :
    Calls Tryd.prog 31 #[v, .int .u64 (n : Int), .int .i64 (s : Int)] w fun e w' => ∃ v' : Value, e = .returned v' ∧ Own kb 5 w' w.heap.size v' (l0 ++ Pl.fixB s n) ∧ Below w.heap.size w w' := by
  have HR := Lib.hid hv
  clear hv
  have hd1 : decide ((s : Int) < 1) = false := by simp; omega
  have hd2 : decide ((8 : Int) < (s : Int)) = false := by simp; omega
  go_enter Tryd.func31, Tryd.ntmps31
  go_wp2_with (go_at_call 22; refine (clone_any _ _ _ HR.out (by omega)).mono ?_; rintro e w1 ⟨v1, rfl, ho1, hb1⟩; have HO1 := Lib.hid ho1; have HB1 := Lib.hid hb1; clear ho1 hb1)
  clear hd1 hd2
  have HN := Lib.hid hn
  clear hn
  go_loopw [7, 8] (fun v i wr => ∃ (k : Nat) (pre : List UInt8), i = .int .i64 ((k : Int) - 1) ∧ Aside0 (k ≤ s) ∧ Aside0 (l0 ++ Pl.fixB s n = pre ++ Pl.fixB k n) ∧ Aside0 (Own kb 5 wr w.heap.size v pre) ∧ Aside0 (Below w.heap.size w wr)) (fun _ i _ => (intOf i + 1).toNat)
  case atStart => exact ⟨s, l0, rfl, ⟨by omega⟩, ⟨rfl⟩, ⟨HO1.out⟩, ⟨HB1.out⟩⟩
  case round =>
    obtain ⟨k, pre, rfl, hk, hpre, HO, HB⟩ := hrel
    rcases k with _ | j
    · rw [show (((0 : Nat) : Int) - 1) = -1 by omega]
      go_wp2
      go_ret
      exact ⟨_, rfl, by rw [hpre.out]; simp [Pl.fixB]; exact HO.out, HB.out⟩
    · rw [show (((j + 1 : Nat) : Int) - 1) = (j : Int) by omega]
      have hj7 : j ≤ 7 := by have := hk.out; omega
      have hp8 : pre.length ≤ 1099511627784 := by
        have h1 := congrArg List.length hpre.out
        rw [List.length_append, List.length_append, Pl.fixB_len] at h1
        omega
      go_wp2_with ((with_reducible refine gate_builtin (b := .append) (xs := #[.tmp 24, .tmp 30]) rfl ?_); at_builtin; refine app1 (w0 := w) w.heap.size rfl (.tmp 24) (.tmp 30) rfl u7 pre (Pl.byteAt n j) _ (Pl.byteAt_int n j).symm rfl rfl HO.out HB.out HB.out.size (by omega) ?_; intro v5 w5 ho5 hb5 hg5 hat5)
      go_roundw
      case rel => exact ⟨j, _, by go_num, ⟨by have := hk.out; omega⟩, ⟨by rw [hpre.out]; simp [Pl.fixB]⟩, ⟨ho5⟩, ⟨hb5⟩⟩
      case measure => simp [intOf] <;> omega

theorem label_num (v : Value) (l : List UInt8) (w : World) (hv : Rd kb w v l) (h : Pl.numOk l = true) :
    Calls Tryd.prog 18 #[v, .bool true] w fun e w' => ∃ v' : Value, e = .returned (.tuple #[v', .bool true]) ∧ Own kb 5 w' w.heap.size v' (Pl.fixB 4 (Pl.val l)) ∧ Below w.heap.size w w' := by
  have hlt : Pl.val l < 18446744073709551616 := by
    unfold Pl.numOk at h
    simp only [Bool.and_eq_true, decide_eq_true_eq] at h
    omega
  have HR := Lib.hid hv
  have HL := Lib.hid hlt
  have HK := Lib.hid h
  clear hv hlt h
  go_enter Tryd.func18, Tryd.ntmps18
  go_wp2_with (first | (go_at_call 30; refine (number_any _ _ _ HR.out).mono ?_; rintro e w1 ⟨n, rfl, hn, rfl⟩; obtain rfl := hn HK.out; rw [HK.out]; clear hn) | (go_at_call 31; refine (fix_any _ [] _ 4 _ (Rd.nil _ _) HL.out (by omega) (by omega) (by simp)).mono ?_; rintro e w1 ⟨v1, rfl, ho1, hb1⟩; have HO1 := Lib.hid ho1; have HB1 := Lib.hid hb1; clear ho1 hb1))
  go_ret2
  exact ⟨_, rfl, HO1.out, HB1.out⟩

/-- What answers bytes, or none: the bytes, and whether there are some. -/
def OptSaid (o : Option (List UInt8)) (w : World) (e : Ending) (w' : World) : Prop := ∃ v' : Value, e = .returned (.tuple #[v', .bool o.isSome]) ∧ Own kb 5 w' w.heap.size v' (o.getD []) ∧ Below w.heap.size w w'

theorem label_any (v : Value) (l : List UInt8) (num : Bool) (w : World) (hv : Rd kb w v l) : Calls Tryd.prog 18 #[v, .bool num] w (OptSaid (Pl.label l num) w) := by
  cases num with
  | true =>
    by_cases h : Pl.numOk l = true
    · rw [Pl.label_num_some h]
      exact label_num v l w hv h
    · replace h : Pl.numOk l = false := by simpa using h
      rw [Pl.label_num_none h]
      have HR := Lib.hid hv
      have HK := Lib.hid h
      clear hv h
      go_enter Tryd.func18, Tryd.ntmps18
      go_wp2_with (first | (go_at_call 30; refine (number_any _ _ _ HR.out).mono ?_; rintro e w1 ⟨n, rfl, hn, rfl⟩; rw [HK.out]; clear hn))
      go_ret2
      exact ⟨_, rfl, Own.nil _ _ _ _, Below.refl _ _⟩
  | false =>
    have HR := Lib.hid hv
    obtain ⟨A, c, rfl, hc, _⟩ := hv
    by_cases h : 1 ≤ l.length ∧ l.length ≤ 32
    · rw [Pl.label_some h]
      obtain ⟨h1, h2⟩ := h
      have hd1 : decide ((l.length : Int) < 1) = false := by simp; omega
      have hd2 : decide ((32 : Int) < (l.length : Int)) = false := by simp; omega
      go_enter Tryd.func18, Tryd.ntmps18
      go_wp2_with (first | (go_at_call 22; refine (clone_any _ _ _ HR.out (by omega)).mono ?_; rintro e w1 ⟨v1, rfl, ho1, hb1⟩; have HO1 := Lib.hid ho1; have HB1 := Lib.hid hb1; clear ho1 hb1))
      go_ret2
      exact ⟨_, rfl, HO1.out, HB1.out⟩
    · rw [Pl.label_none h]
      have hn : (l.length < 1) ∨ (1 ≤ l.length ∧ 32 < l.length) := by omega
      clear h
      rcases hn with h1 | ⟨h1, h2⟩
      · have hd1 : decide ((l.length : Int) < 1) = true := by simp; omega
        go_enter Tryd.func18, Tryd.ntmps18
        go_wp2_with fail
        go_ret2
        exact ⟨_, rfl, Own.nil _ _ _ _, Below.refl _ _⟩
      · have hd1 : decide ((l.length : Int) < 1) = false := by simp; omega
        have hd2 : decide ((32 : Int) < (l.length : Int)) = true := by simp; omega
        go_enter Tryd.func18, Tryd.ntmps18
        go_wp2_with fail
        go_ret2
        exact ⟨_, rfl, Own.nil _ _ _ _, Below.refl _ _⟩
end Go.Proofs.YtjdcejbblcbjpaaDoor
