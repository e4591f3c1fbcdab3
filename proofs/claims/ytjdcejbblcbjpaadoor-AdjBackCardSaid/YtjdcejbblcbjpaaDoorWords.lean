import Derived.Test.YtjdcejbblcbjpaaDoorBase
import Derived.Test.YtjdcejbblcbjpaaDoorPlain
/-! line.blank, line.Words, line.Bare. -/
namespace Go.Proofs.YtjdcejbblcbjpaaDoor
open Go.RowKit Go.Proofs.YtjdcejbblcbjpaaDoorW.PrintWords Go.Proofs.YtjdcejbblcbjpaaDoorW.PrintLast Go.Proofs.YtjdcejbblcbjpaaDoorW.PrintMore

theorem blank_any (c : UInt8) (w : World) : Calls Tryd.prog 29 #[.int .u8 (c.toNat : Int)] w fun e w' => e = .returned (.bool (Pl.isBl c)) ∧ w = w' := by
  have key : ∀ b : Bool, Pl.isBl c = b → Calls Tryd.prog 29 #[.int .u8 (c.toNat : Int)] w fun e w' => e = .returned (.bool b) ∧ w = w' := by
    intro b hb
    have e1 : (((c.toNat : Int) == 32)) = (c == 32) := u8_beq c 32
    have e2 : (((c.toNat : Int) == 9)) = (c == 9) := u8_beq c 9
    unfold Pl.isBl at hb
    rw [← e1, ← e2] at hb
    clear e1 e2
    go_enter Tryd.func29, Tryd.ntmps29
    go_wp2
    all_goals
      go_ret
      simp_all
  exact key _ rfl

set_option maxRecDepth 100000 in
theorem words_any (v : Value) (at_ : Int) (bs : List UInt8) (w : World) (hv : Rd kb w v bs) (ha : 0 ≤ at_) (hb : at_ ≤ 4611686018427387904) (hl : bs.length ≤ 1099511627776) :
    Calls Tryd.prog 17 #[.agg #[.int .i64 at_, v]] w fun e w' => ∃ v' : Value, e = .returned v' ∧ Own kLine 33 w' w.heap.size v' (Pl.words at_ bs) ∧ Below w.heap.size w w' := by
  obtain ⟨A0, c0, rfl, hc0, HR0⟩ := hv
  have HR := Lib.hid HR0
  clear HR0
  go_enter Tryd.func17, Tryd.ntmps17
  go_wp2
  obtain ⟨w1, hw1⟩ : ∃ w1 : World, w.alloc (.cells #[.int .i64 at_, .slice A0 bs.length c0] 33) = w1 := ⟨_, rfl⟩
  have hB1 : Below w.heap.size w w1 := by rw [← hw1]; exact below_alloc (Below.refl _ _) _
  have hz1 : w1.heap.size = w.heap.size + 1 := by rw [← hw1]; simp
  have hx0 : w1.cell? ⟨w.heap.size, 0, none⟩ = some (.int .i64 at_) := by rw [← hw1]; simp
  have hx1 : w1.cell? ⟨w.heap.size, 1, none⟩ = some (.slice A0 bs.length c0) := by rw [← hw1]; simp
  rw [hw1]
  clear hw1
  go_loopw [3, 4] (fun v i wr => ∃ (k : Nat) (pre : List (Int × List UInt8)), i = .int .i64 (k : Int) ∧ Aside0 (k ≤ bs.length + 1) ∧ Aside0 (Pl.words at_ bs = pre ++ (Pl.wordsFrom k (bs.drop k)).map fun p => (at_ + (p.1 : Int), p.2)) ∧ Aside0 (Own kLine 33 wr w1.heap.size v pre) ∧ Aside0 (Below w1.heap.size w1 wr)) (fun _ i _ => bs.length + 1 - (intOf i).toNat)
  case atStart => exact ⟨0, [], rfl, ⟨by omega⟩, ⟨by rw [List.drop_zero]; rfl⟩, ⟨Own.nil _ _ _ _⟩, ⟨Below.refl _ _⟩⟩
  case round =>
    obtain ⟨k, pre, rfl, hk, hpre, HO, HB⟩ := hrel
    have hy0 : wr.cell? ⟨w.heap.size, 0, none⟩ = some (.int .i64 at_) := (HB.out.cell (p := ⟨w.heap.size, 0, none⟩) (by simp; omega)).trans hx0
    have hy1 : wr.cell? ⟨w.heap.size, 1, none⟩ = some (.slice A0 bs.length c0) := (HB.out.cell (p := ⟨w.heap.size, 1, none⟩) (by simp; omega)).trans hx1
    have hpl := Lib.hid (show pre.length ≤ bs.length by have h1 := congrArg List.length hpre.out; have h2 := Pl.words_len at_ bs; rw [List.length_append] at h1; omega)
    by_cases hlt : k < bs.length
    · have hT := Pl.tok_len_le bs k (by omega)
      have hin := Lib.hid (Pl.tok_in bs k)
      have hout := Lib.hid (Pl.tok_out bs k (by omega))
      have htk := Lib.hid (Pl.tok_cut bs k)
      have hws := Lib.hid (Pl.words_step bs k hlt)
      obtain ⟨T, hTT⟩ : ∃ T, (Pl.tok (bs.drop k)).length = T := ⟨_, rfl⟩
      rw [hTT] at hT hin hout htk hws
      have HT := Lib.hid hTT
      clear hTT
      obtain ⟨ad, rfl, _⟩ := kb_cell HR.out k hlt
      go_wp2
      go_loop [5] (fun e => ∃ j : Nat, e = .int .i64 (j : Int) ∧ Aside0 (k ≤ j ∧ j ≤ k + T)) (fun e => k + T - (intOf e).toNat)
      case atStart => exact ⟨k, rfl, ⟨by omega, by omega⟩⟩
      case round =>
        obtain ⟨j, rfl, hj⟩ := hrel
        obtain ⟨hj1, hj2⟩ := hj.out
        clear hj
        by_cases hjt : j < k + T
        · obtain ⟨hjl, hbl⟩ := hin.out j hj1 hjt
          have hce := kb_cell' (Kd.F_below HR.out (bthen hB1 HB.out)) j hjl
          obtain ⟨c, hc⟩ : ∃ c, bs.getD j 0 = c := ⟨_, rfl⟩
          rw [hc] at hce hbl
          clear hc
          go_wp2_with (go_at_call 29; refine (blank_any c _).mono ?_; rintro e w' ⟨rfl, rfl⟩)
          go_round
          case rel => exact ⟨j + 1, by go_num, ⟨by omega, by omega⟩⟩
          case measure => simp [intOf]; omega
        · obtain rfl : j = k + T := by omega
          clear hj1 hj2 hjt
          have hend : (¬ k + T < bs.length) ∨ (k + T < bs.length ∧ Pl.isBl (bs.getD (k + T) 0) = true) := by
            by_cases h : k + T < bs.length
            · exact .inr ⟨h, hout.out h⟩
            · exact .inl h
          by_cases hT0 : T = 0
          · subst hT0
            simp only [Nat.add_zero] at hend hws htk hin hout
            have hbl := hout.out hlt
            have hce := kb_cell' (Kd.F_below HR.out (bthen hB1 HB.out)) k hlt
            obtain ⟨c, hc⟩ : ∃ c, bs.getD k 0 = c := ⟨_, rfl⟩
            rw [hc] at hce hbl
            clear hc hend
            go_wp2_with (go_at_call 29; refine (blank_any c _).mono ?_; rintro e w' ⟨rfl, rfl⟩)
            go_roundw
            case rel =>
              refine ⟨k + 1, pre, by go_num, ⟨by omega⟩, ⟨?_⟩, HO, HB⟩
              have h0 : Pl.tok (bs.drop k) = [] := List.eq_nil_of_length_eq_zero HT.out
              have h1 := hws.out
              rw [if_pos h0, List.nil_append] at h1
              rw [hpre.out, h1]
            case measure => simp [intOf]; omega
          · have hT1 : 0 < T := by omega
            clear hT0
            obtain ⟨A2, hcut, hV2⟩ := byte_cut HR.out hc0 k (k + T) (by omega) hT
            replace hcut := hcut .i64 .i64 (k : Int) ((k : Int) + (T : Int)) rfl (by omega)
            rw [show k + T - k = T by omega] at hcut hV2
            rw [← htk.out] at hV2
            have HV2 := Lib.hid hV2
            clear hV2
            have hzr : w.heap.size < wr.heap.size := by have := HB.out.size; omega
            have hz0 : w.heap.size < w1.heap.size := by omega
            have hwr : IntKind.i64.wrap (at_ + (k : Int)) = at_ + (k : Int) := IntWalk.i64_in _ (by omega)
            have hstep : Pl.words at_ bs = (pre ++ [(at_ + (k : Int), Pl.tok (bs.drop k))]) ++ (Pl.wordsFrom (k + T + 1) (bs.drop (k + T + 1))).map fun p => (at_ + (p.1 : Int), p.2) := by
              have h0 : ¬ Pl.tok (bs.drop k) = [] := fun h => by have := HT.out; rw [h] at this; simp at this; omega
              have h1 := hws.out
              rw [if_neg h0] at h1
              rw [hpre.out, h1]
              simp
            have Hstep := Lib.hid hstep
            clear hstep
            rcases hend with h | ⟨h, hbl⟩
            · go_wp2_with fail
              go_region_held3 (fun W => W.cell? ⟨w.heap.size, 0, none⟩ = some (.int .i64 at_) ∧ W.cell? ⟨w.heap.size, 1, none⟩ = some (.slice (some ad) bs.length c0)) (first | exact ⟨hy0, hy1⟩ | exact ⟨(hb2.cell (p := ⟨w.heap.size, 0, none⟩) hzr).trans hy0, (hb2.cell (p := ⟨w.heap.size, 1, none⟩) hzr).trans hy1⟩ | exact ⟨(hb5.cell (p := ⟨w.heap.size, 0, none⟩) hz0).trans hx0, (hb5.cell (p := ⟨w.heap.size, 1, none⟩) hz0).trans hx1⟩ | go_keep)
                (first | (go_at_call 22; refine (clone_any _ _ _ (Rd.below HV2.out (bthen hB1 HB.out).drew) (by have := HT.out; omega)).mono ?_; rintro e w2 ⟨v2, rfl, ho2, hb2⟩; obtain ⟨A3, c3, hv2⟩ := Kd.N_slice ho2; subst hv2) | (refine Kd.N_append_step kLine (w0 := w1) w1.heap.size rfl (.tmp 31) (.tmp 43) 43 33 (.agg #[(.int .i64 0), (.slice none 0 0)]) 32 rfl Tryd.underlying43 infoLine rfl (by decide) (by omega) u3 pre (at_ + (k : Int), Pl.tok (bs.drop k)) [.int .i64 (at_ + (k : Int)), .slice A3 (Pl.tok (bs.drop k)).length c3] (fun k => w1.heap.size ≤ k) (fun k => wr.heap.size ≤ k) rfl rfl ?aP ?aQ ?aF ?aO ?aB ?aS ?aL ?_; (case aP => exact line_FK ho2.v); (case aQ => exact fun j hj => ⟨Nat.le_trans HB.out.size hj, fun he => by have := HO.out.lt j he.symm; omega⟩); (case aF => exact fun j hj => Nat.le_trans (Nat.le_trans HB.out.size hb2.size) hj); (case aO => exact Kd.N_below (Kd.N_drew HO.out) hb2); (case aB => exact bthen HB.out.drew hb2); (case aS => exact Nat.le_trans HB.out.size hb2.size); (case aL => have := hpl.out; omega); intro v5 w5 ho5 hb5 hg5 hat5))
              go_wp2
              go_roundw
              case rel => exact ⟨k + T + 1, _, by go_num, ⟨by omega⟩, ⟨Hstep.out⟩, ⟨ho5⟩, ⟨hb5⟩⟩
              case measure => simp [intOf]; omega
            · have hce := kb_cell' (Kd.F_below HR.out (bthen hB1 HB.out)) (k + T) h
              obtain ⟨c, hc⟩ : ∃ c, bs.getD (k + T) 0 = c := ⟨_, rfl⟩
              rw [hc] at hce hbl
              clear hc
              go_wp2_with (go_at_call 29; refine (blank_any c _).mono ?_; rintro e w' ⟨rfl, rfl⟩)
              go_region_held3 (fun W => W.cell? ⟨w.heap.size, 0, none⟩ = some (.int .i64 at_) ∧ W.cell? ⟨w.heap.size, 1, none⟩ = some (.slice (some ad) bs.length c0)) (first | exact ⟨hy0, hy1⟩ | exact ⟨(hb2.cell (p := ⟨w.heap.size, 0, none⟩) hzr).trans hy0, (hb2.cell (p := ⟨w.heap.size, 1, none⟩) hzr).trans hy1⟩ | exact ⟨(hb5.cell (p := ⟨w.heap.size, 0, none⟩) hz0).trans hx0, (hb5.cell (p := ⟨w.heap.size, 1, none⟩) hz0).trans hx1⟩ | go_keep)
                (first | (go_at_call 22; refine (clone_any _ _ _ (Rd.below HV2.out (bthen hB1 HB.out).drew) (by have := HT.out; omega)).mono ?_; rintro e w2 ⟨v2, rfl, ho2, hb2⟩; obtain ⟨A3, c3, hv2⟩ := Kd.N_slice ho2; subst hv2) | (refine Kd.N_append_step kLine (w0 := w1) w1.heap.size rfl (.tmp 31) (.tmp 43) 43 33 (.agg #[(.int .i64 0), (.slice none 0 0)]) 32 rfl Tryd.underlying43 infoLine rfl (by decide) (by omega) u3 pre (at_ + (k : Int), Pl.tok (bs.drop k)) [.int .i64 (at_ + (k : Int)), .slice A3 (Pl.tok (bs.drop k)).length c3] (fun k => w1.heap.size ≤ k) (fun k => wr.heap.size ≤ k) rfl rfl ?aP ?aQ ?aF ?aO ?aB ?aS ?aL ?_; (case aP => exact line_FK ho2.v); (case aQ => exact fun j hj => ⟨Nat.le_trans HB.out.size hj, fun he => by have := HO.out.lt j he.symm; omega⟩); (case aF => exact fun j hj => Nat.le_trans (Nat.le_trans HB.out.size hb2.size) hj); (case aO => exact Kd.N_below (Kd.N_drew HO.out) hb2); (case aB => exact bthen HB.out.drew hb2); (case aS => exact Nat.le_trans HB.out.size hb2.size); (case aL => have := hpl.out; omega); intro v5 w5 ho5 hb5 hg5 hat5))
              go_wp2
              go_roundw
              case rel => exact ⟨k + T + 1, _, by go_num, ⟨by omega⟩, ⟨Hstep.out⟩, ⟨ho5⟩, ⟨hb5⟩⟩
              case measure => simp [intOf]; omega
    · go_wp2
      go_ret
      refine ⟨_, rfl, ?_, bthen hB1 HB.out⟩
      have e : Pl.words at_ bs = pre := by
        rw [hpre.out, List.drop_of_length_le (by omega), Pl.wordsFrom_nil]
        simp
      rw [e]
      exact HO.out.lower (by omega)
end Go.Proofs.YtjdcejbblcbjpaaDoor
