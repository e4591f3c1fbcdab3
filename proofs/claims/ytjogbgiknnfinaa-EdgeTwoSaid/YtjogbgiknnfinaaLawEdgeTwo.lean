import Derived.Test.YtjogbgiknnfinaaPlain2
import Derived.Test.YtjogbgiknnfinaaLaw8
/-! creellaw08.word; the law EdgeTwo, walked. -/
set_option linter.unusedSimpArgs false
set_option linter.unusedVariables false
namespace Go.Proofs.Ytjogbgiknnfinaa
open Go.RowKit Go.Proofs.YtjogbgiknnfinaaW.PrintWords Go.Proofs.YtjogbgiknnfinaaW.PrintLast Go.Proofs.YtjogbgiknnfinaaW.PrintMore
attribute [local go_sem] max2_int min2_int max_two min_two

namespace Pl
/-- a byte that may stand in no word -/
def badB (c : UInt8) : Bool := c == 32 || c == 9 || c == 10 || c == 13
def fixW (c : UInt8) : UInt8 := if badB c then 119 else c
/-- bytes as a word -/
def wordOf (b : List UInt8) : List UInt8 := if b = [] then [119] else (b.take 32).map fixW
theorem fixW_nb (c : UInt8) : isBl (fixW c) = false := by
  unfold fixW
  split
  · decide
  · rename_i h
    unfold badB at h
    unfold isBl
    simp only [Bool.or_eq_true, not_or, Bool.not_eq_true] at h
    rw [h.1.1.1, h.1.1.2]; rfl
theorem wordOf_len (b : List UInt8) : 1 ≤ (wordOf b).length ∧ (wordOf b).length ≤ 32 := by
  unfold wordOf
  split
  · simp
  · rename_i h
    have := List.length_pos_iff.2 h
    simp; omega
theorem wordOf_nb (b : List UInt8) : ∀ c ∈ wordOf b, isBl c = false := by
  unfold wordOf
  split
  · intro c hc; simp at hc; subst hc; decide
  · intro c hc
    obtain ⟨d, _, rfl⟩ := List.mem_map.1 hc
    exact fixW_nb d
theorem mapStep (f : UInt8 → UInt8) (xs : List UInt8) (k : Nat) (h : k < xs.length) : ((xs.take k).map f ++ xs.drop k).set k (f (xs.getD k 0)) = (xs.take (k + 1)).map f ++ xs.drop (k + 1) := by
  have hl : ((xs.take k).map f).length = k := by simp; omega
  rw [List.set_append_right _ _ (by omega), hl, Nat.sub_self, List.drop_eq_getElem_cons h, List.set_cons_zero, take_snoc h, List.map_append, List.append_assoc]
  rfl
theorem mapAt (f : UInt8 → UInt8) (xs : List UInt8) (k : Nat) (h : k < xs.length) : ((xs.take k).map f ++ xs.drop k).getD k 0 = xs.getD k 0 ∧ ((xs.take k).map f ++ xs.drop k).length = xs.length := by
  have hl : ((xs.take k).map f).length = k := by simp; omega
  refine ⟨?_, by simp; omega⟩
  simp only [List.getD_eq_getElem?_getD]
  rw [List.getElem?_append_right (by omega), hl, Nat.sub_self, List.getElem?_drop]
  rfl
theorem mapSame (f : UInt8 → UInt8) (xs : List UInt8) (k : Nat) (h : k < xs.length) (hf : f (xs.getD k 0) = xs.getD k 0) : (xs.take (k + 1)).map f ++ xs.drop (k + 1) = (xs.take k).map f ++ xs.drop k := by
  rw [← mapStep f xs k h, hf]
  have hl : ((xs.take k).map f).length = k := by simp; omega
  rw [List.set_append_right _ _ (by omega), hl, Nat.sub_self, List.drop_eq_getElem_cons h, List.set_cons_zero]
  simp [List.getD, h]
theorem bad_cases (c : UInt8) : c = 32 ∨ c = 9 ∨ c = 10 ∨ c = 13 ∨ (((c.toNat : Int) == 32) = false ∧ ((c.toNat : Int) == 9) = false ∧ ((c.toNat : Int) == 10) = false ∧ ((c.toNat : Int) == 13) = false ∧ fixW c = c) := by
  rw [show ((c.toNat : Int) == 32) = (c == 32) from u8_beq c 32, show ((c.toNat : Int) == 9) = (c == 9) from u8_beq c 9, show ((c.toNat : Int) == 10) = (c == 10) from u8_beq c 10, show ((c.toNat : Int) == 13) = (c == 13) from u8_beq c 13]
  by_cases h1 : c = 32
  · exact .inl h1
  by_cases h2 : c = 9
  · exact .inr (.inl h2)
  by_cases h3 : c = 10
  · exact .inr (.inr (.inl h3))
  by_cases h4 : c = 13
  · exact .inr (.inr (.inr (.inl h4)))
  refine .inr (.inr (.inr (.inr ⟨by simpa using h1, by simpa using h2, by simpa using h3, by simpa using h4, ?_⟩)))
  unfold fixW badB
  simp [h1, h2, h3, h4]
end Pl

set_option maxRecDepth 100000 in
set_option maxHeartbeats 1000000 in
theorem word_any (v : Value) (b : List UInt8) (w : World) (hv : Rd kb w v b) : Calls Try.prog 19 #[v] w fun e w' => ∃ v', e = .returned v' ∧ Own kb 5 w' w.heap.size v' (Pl.wordOf b) ∧ Below w.heap.size w w' := by
  obtain ⟨A, c, rfl, hc, hF⟩ := hv
  obtain ⟨hcut, hV⟩ := byte_to hF hc (min b.length 32) (by omega)
  have hm := Kd.F_max hF
  have e1 : b.take (min b.length 32) = b.take 32 := by
    rcases Nat.le_total b.length 32 with h | h
    · rw [Nat.min_eq_left h, List.take_of_length_le (Nat.le_refl _), List.take_of_length_le h]
    · rw [Nat.min_eq_right h]
  rw [e1] at hV
  have HL := lit_own w w.heap.size [] [] rfl (Nat.le_refl _) (by simp)
  have HB := below_alloc (Below.refl _ w) (.cells #[] 5)
  have HLH := Lib.hid HL
  have HBH := Lib.hid HB
  have HW0 := Lib.hid (show Pl.wordOf b = if b = [] then [119] else (b.take 32).map Pl.fixW from rfl)
  clear e1 hF HL HB
  obtain ⟨m, hmm⟩ : ∃ m, min b.length 32 = m := ⟨_, rfl⟩
  rw [hmm] at hcut hV
  have hxl : (b.take 32).length = m := by rw [← hmm, List.length_take]; omega
  have hb0 : b = [] ↔ m = 0 := by
    rw [← hmm]
    constructor
    · intro h; subst h; rfl
    · intro h; exact List.eq_nil_of_length_eq_zero (by omega)
  have hm1 : (if (32 : Int) < (b.length : Int) then (32 : Int) else (b.length : Int)) = (m : Int) := by rw [← hmm]; split <;> omega
  obtain ⟨xs, hxs⟩ : ∃ x, b.take 32 = x := ⟨_, rfl⟩
  rw [hxs] at hV hxl HW0
  have HV := Lib.hid hV
  have HXL := Lib.hid hxl
  have Hb0 := Lib.hid hb0
  have hm32 : m ≤ 32 := by omega
  clear hxs hmm hxl hb0 hV
  have hms : (¬ (32 : Int) < (b.length : Int) ∧ (b.length : Int) = (m : Int)) ∨ ((32 : Int) < (b.length : Int) ∧ (32 : Int) = (m : Int)) := by
    split at hm1 <;> omega
  clear hm1
  have HLW := lit_own w w.heap.size [] [] rfl (Nat.le_refl _) (by simp)
  rcases hms with ⟨h1, h2⟩ | ⟨h1, h2⟩
  all_goals
    replace hcut := hcut .i64 _ h2
    clear h2 HLW
    go_enter Try.func19, Try.ntmps19
    go_wp2_with ((with_reducible refine gate_builtin (b := .append) (xs := #[.tmp 6, .tmp 11]) rfl ?_); at_builtin; refine appN (w0 := w) w.heap.size rfl (.tmp 6) (.tmp 11) rfl _ _ [] xs rfl rfl HLH.out (Rd.below HV.out HBH.out) HBH.out HBH.out.size (by have := HXL.out; simp; omega) ?_; intro v5 w5 ho5 hb5 hg5 hat5; rw [List.nil_append] at ho5; obtain ⟨A5, c5, hv5⟩ := Kd.N_slice ho5; rw [HXL.out] at hv5; subst hv5; have HO5 := Lib.hid ho5; have HB5 := Lib.hid hb5; clear ho5 hb5 hg5 hat5; by_cases hm0 : ((m : Int) == 0) = true)
    · go_ret
      have h0 : b = [] := Hb0.out.2 (by have := beq_iff_eq.1 hm0; omega)
      rw [HW0.out, if_pos h0]
      exact ⟨_, rfl, lit_own w5 w.heap.size [119] [.int .u8 119] rfl HB5.out.size (by simp), below_alloc HB5.out _⟩
    · have h0 : 0 < m := by
        have : ¬ ((m : Int) = 0) := fun h => hm0 (beq_iff_eq.2 h)
        omega
      obtain ⟨g, cap, hv5, hg1, hg2⟩ := own_form HO5.out (by rw [HXL.out]; exact h0)
      rw [HXL.out] at hv5
      injection hv5 with hv5 _ hv6
      subst hv5 hv6
      have HB0 := Lib.hid (show b ≠ [] from fun h => by have := Hb0.out.1 h; omega)
      go_loopw [19] (fun i wr => ∃ k : Nat, i = .int .i64 (k : Int) ∧ Aside0 (k ≤ m) ∧ Aside0 (Own kb 5 wr w.heap.size (.slice (some ⟨g, 0, none⟩) m c5) ((xs.take k).map Pl.fixW ++ xs.drop k)) ∧ Aside0 (Below w.heap.size w wr)) (fun i _ => m - (intOf i).toNat)
      case atStart => exact ⟨0, rfl, ⟨by omega⟩, ⟨by simpa using HO5.out⟩, ⟨HB5.out⟩⟩
      case round =>
        obtain ⟨k, rfl, hk, HO, HB⟩ := hrel
        by_cases hlt : k < m
        · obtain ⟨hat, hlen⟩ := Pl.mapAt Pl.fixW xs k (by rw [HXL.out]; exact hlt)
          obtain ⟨hce, hcf⟩ := own_cell HO.out k (by rw [hlen, HXL.out]; exact hlt)
          rw [hat] at hce
          obtain ⟨ch, hch⟩ : ∃ d, xs.getD k 0 = d := ⟨_, rfl⟩
          have Hst := Lib.hid (Pl.mapStep Pl.fixW xs k (by rw [HXL.out]; exact hlt))
          have Hsm := Lib.hid (Pl.mapSame Pl.fixW xs k (by rw [HXL.out]; exact hlt))
          rw [hch] at hce Hst Hsm
          clear hat hlen hch
          rcases Pl.bad_cases ch with rfl | rfl | rfl | rfl | ⟨t1, t2, t3, t4, hfx⟩
          · replace hce : wr.cell? ⟨g, k, none⟩ = some (.int .u8 32) := hce
            go_wp2
            go_roundw
            case rel => exact ⟨k + 1, by go_num, ⟨by omega⟩, ⟨by rw [← Hst.out]; exact own_put HO.out k 119⟩, ⟨HB.out.setCell (p := ⟨g, k, none⟩) hg1 _⟩⟩
            case measure => simp [intOf]; omega
          · replace hce : wr.cell? ⟨g, k, none⟩ = some (.int .u8 9) := hce
            go_wp2
            go_roundw
            case rel => exact ⟨k + 1, by go_num, ⟨by omega⟩, ⟨by rw [← Hst.out]; exact own_put HO.out k 119⟩, ⟨HB.out.setCell (p := ⟨g, k, none⟩) hg1 _⟩⟩
            case measure => simp [intOf]; omega
          · replace hce : wr.cell? ⟨g, k, none⟩ = some (.int .u8 10) := hce
            go_wp2
            go_roundw
            case rel => exact ⟨k + 1, by go_num, ⟨by omega⟩, ⟨by rw [← Hst.out]; exact own_put HO.out k 119⟩, ⟨HB.out.setCell (p := ⟨g, k, none⟩) hg1 _⟩⟩
            case measure => simp [intOf]; omega
          · replace hce : wr.cell? ⟨g, k, none⟩ = some (.int .u8 13) := hce
            go_wp2
            go_roundw
            case rel => exact ⟨k + 1, by go_num, ⟨by omega⟩, ⟨by rw [← Hst.out]; exact own_put HO.out k 119⟩, ⟨HB.out.setCell (p := ⟨g, k, none⟩) hg1 _⟩⟩
            case measure => simp [intOf]; omega
          · have HFX := Lib.hid hfx
            clear hfx
            go_wp2
            go_roundw
            case rel => exact ⟨k + 1, by go_num, ⟨by omega⟩, ⟨by rw [Hsm.out HFX.out]; exact HO.out⟩, HB⟩
            case measure => simp [intOf]; omega
        · go_wp2
          go_ret
          rw [HW0.out, if_neg HB0.out]
          have h3 := HO.out
          rw [List.take_of_length_le (by rw [HXL.out]; omega), List.drop_of_length_le (by rw [HXL.out]; omega), List.append_nil] at h3
          exact ⟨_, rfl, h3, HB.out⟩

namespace Pl
def gapB (n i : Nat) : UInt8 := if (n + i) % 2 = 0 then 32 else 9
def gapOf (n : Nat) : List UInt8 := (List.range (n % 5 + 1)).map (gapB n)
theorem gapOf_len (n : Nat) : (gapOf n).length = n % 5 + 1 := by simp [gapOf]
theorem gapOf_bl (n : Nat) : ∀ c ∈ gapOf n, isBl c = true := by
  intro c hc
  obtain ⟨i, _, rfl⟩ := List.mem_map.1 hc
  unfold gapB
  split <;> decide
theorem gapStep (n k m : Nat) (h : k < m) : (((List.range k).map (gapB n)) ++ List.replicate (m - k) (0 : UInt8)).set k (gapB n k) = ((List.range (k + 1)).map (gapB n)) ++ List.replicate (m - (k + 1)) 0 := by
  have hl : ((List.range k).map (gapB n)).length = k := by simp
  rw [List.set_append_right _ _ (by omega), hl, Nat.sub_self, show m - k = (m - (k + 1)) + 1 by omega, List.replicate_succ, List.set_cons_zero, List.range_succ, List.map_append, List.append_assoc]
  rfl
theorem edge_two (g1 x g2 y g3 : List UInt8) (h1 : ∀ c ∈ g1, isBl c = true) (h2 : ∀ c ∈ g2, isBl c = true) (h3 : ∀ c ∈ g3, isBl c = true) (hg : g2 ≠ []) (hx : ∀ c ∈ x, isBl c = false) (hy : ∀ c ∈ y, isBl c = false) (hxl : 1 ≤ x.length ∧ x.length ≤ 32) (hyl : 1 ≤ y.length ∧ y.length ≤ 32) :
    edge 7 (g1 ++ x ++ g2 ++ y ++ g3) false = ⟨true, x, y, 0, 0⟩ := by
  obtain ⟨i, j, hw⟩ := two_words g1 x g2 y g3 h1 h2 h3 hg hx hy (fun h => by rw [h] at hxl; simp at hxl) (fun h => by rw [h] at hyl; simp at hyl) 7
  unfold edge
  rw [hw]
  simp only
  rw [label_some hxl, label_some hyl]
end Pl

set_option maxRecDepth 100000 in
set_option maxHeartbeats 4000000 in
theorem edgeTwo_walk (va : Value) (a : List UInt8) (vb : Value) (b : List UInt8) (n : Int) (w : World) (hva : Rd kb w va a) (_ : a.length ≤ 140737488351232) (hvb : Rd kb w vb b) (_ : b.length ≤ 140737488351232) (hn0 : 0 ≤ n) (hn1 : n ≤ 255) :
    Calls Try.prog 5 #[va, vb, .int .u8 n] w fun e w' => e = .returned (.bool true) ∧ Below w.heap.size w w' := by
  obtain ⟨m, rfl⟩ := Int.eq_ofNat_of_zero_le hn0
  have HA := Lib.hid hva
  have HBb := Lib.hid hvb
  clear hva hvb
  go_enter Try.func5, Try.ntmps5
  go_wp2_with (go_at_call 13; refine (shown08_any _).mono ?_; rintro e w1 ⟨rfl, hb1⟩; have HB1 := Lib.hid hb1; clear hb1)
  refine (word_any _ a _ (HA.out.below HB1.out)).mono ?_
  rintro e w2 ⟨v2, rfl, ho2, hb2⟩
  have HO2 := Lib.hid ho2
  have HB2 := Lib.hid (bthen HB1.out hb2)
  clear ho2 hb2
  go_wp2_with fail
  refine (word_any _ b _ (HBb.out.below HB2.out)).mono ?_
  rintro e w3 ⟨v3, rfl, ho3, hb3⟩
  obtain ⟨hxl1, hxl2⟩ := Pl.wordOf_len a
  obtain ⟨hyl1, hyl2⟩ := Pl.wordOf_len b
  have hxn := Lib.hid (Pl.wordOf_nb a)
  have hyn := Lib.hid (Pl.wordOf_nb b)
  have HO2' := HO2.out.below hb3
  generalize Pl.wordOf a = xs at *
  generalize Pl.wordOf b = ys at *
  obtain ⟨A2, c2, hv2⟩ := Kd.N_slice HO2'
  obtain ⟨A3, c3, hv3⟩ := Kd.N_slice ho3
  subst hv2 hv3
  have HX := Lib.hid HO2'.rd
  have HY := Lib.hid ho3.rd
  have HB3 := Lib.hid (bthen HB2.out hb3)
  clear ho3 hb3 HO2 HO2' HB2
  have hmm : (m : Int) % 5 + 1 = ((m % 5 + 1 : Nat) : Int) := by omega
  have HMM := Lib.hid hmm
  clear hmm
  go_wp2_with ((with_reducible refine gate_dst (N := 23) rfl ?_); refine mkB (w0 := w3) w3.heap.size rfl rfl (.tmp 22) (.tmp 22) rfl (m % 5 + 1) (by rw [← HMM.out]; rfl) (by rw [← HMM.out]; rfl) (by omega) (Below.refl _ _) (Nat.le_refl _) ?_; intro v4 w4 ho4 hb4 hg4; obtain ⟨g, cap, hv4, hg1, hg2⟩ := own_form ho4 (by simp); rw [List.length_replicate] at hv4; subst hv4; have HO4 := Lib.hid ho4; have HB4 := Lib.hid hb4; clear ho4 hb4 hg4)
  rw [show (m : Int) % 5 = ((m % 5 : Nat) : Int) by omega]
  obtain ⟨M, hM⟩ : ∃ M, m % 5 = M := ⟨_, rfl⟩
  have hM4 : M ≤ 4 := by omega
  have hG := Lib.hid (show Pl.gapOf m = (List.range (M + 1)).map (Pl.gapB m) by rw [← hM]; rfl)
  rw [hM] at HO4 ⊢
  clear HMM hM
  go_loopw [26] (fun i wr => ∃ k : Nat, i = .int .i64 (k : Int) ∧ Aside0 (k ≤ M + 1) ∧ Aside0 (Own kb 5 wr w3.heap.size (.slice (some ⟨g, 0, none⟩) (M + 1) cap) ((List.range k).map (Pl.gapB m) ++ List.replicate (M + 1 - k) 0)) ∧ Aside0 (Below w3.heap.size w3 wr)) (fun i _ => M + 1 - (intOf i).toNat)
  case atStart => exact ⟨0, rfl, ⟨by omega⟩, ⟨by simpa using HO4.out⟩, ⟨HB4.out⟩⟩
  case round =>
    obtain ⟨k, rfl, hk, HO, HB⟩ := hrel
    by_cases hlt : k < M + 1
    · have hlen : ((List.range k).map (Pl.gapB m) ++ List.replicate (M + 1 - k) (0 : UInt8)).length = M + 1 := by simp; omega
      obtain ⟨hce, hcf⟩ := own_cell HO.out k (by rw [hlen]; exact hlt)
      obtain ⟨ch, hch⟩ : ∃ d, ((List.range k).map (Pl.gapB m) ++ List.replicate (M + 1 - k) (0 : UInt8)).getD k 0 = d := ⟨_, rfl⟩
      rw [hch] at hce
      have Hst := Lib.hid (Pl.gapStep m k (M + 1) hlt)
      have hgw : g < wr.heap.size := HO.out.lt g (by simp [Value.ownBlock])
      have hgn : wr.heap.size ≠ g := by omega
      clear hch hlen
      have hd : decide ((k : Int) < (M : Int) + 1) = true := by simp; omega
      rcases Nat.mod_two_eq_zero_or_one (m + k) with h2 | h2
      · have hgb := Lib.hid (show Pl.gapB m k = 32 by unfold Pl.gapB; rw [if_pos h2])
        have h3 : ((m : Int) + (k : Int)) % 2 = 0 := by omega
        clear h2
        go_wp2
        go_roundw
        case rel => exact ⟨k + 1, by go_num, ⟨by omega⟩, ⟨by rw [← Hst.out, hgb.out]; exact (own_put HO.out k 32).alloc _⟩, ⟨(HB.out.setCell (p := ⟨g, k, none⟩) hg1 _).alloc (by simp; exact HB.out.size) _⟩⟩
        case measure => simp [intOf]; omega
      · have hgb := Lib.hid (show Pl.gapB m k = 9 by unfold Pl.gapB; rw [if_neg (by omega)])
        have h3 : ((m : Int) + (k : Int)) % 2 = 1 := by omega
        clear h2
        go_wp2
        go_roundw
        case rel => exact ⟨k + 1, by go_num, ⟨by omega⟩, ⟨by rw [← Hst.out, hgb.out]; exact (own_put HO.out k 9).alloc _⟩, ⟨(HB.out.setCell (p := ⟨g, k, none⟩) hg1 _).alloc (by simp; exact HB.out.size) _⟩⟩
        case measure => simp [intOf]; omega
    · obtain rfl : k = M + 1 := by have := hk.out; omega
      have hd : decide (((M + 1 : Nat) : Int) < (M : Int) + 1) = false := by simp
      have HG := HO.out.rd
      rw [Nat.sub_self, List.replicate_zero, List.append_nil, ← hG.out] at HG
      have hgl : (Pl.gapOf m).length = M + 1 := by rw [hG.out]; simp
      have hgbl := Lib.hid (Pl.gapOf_bl m)
      obtain ⟨gg, hgg⟩ : ∃ x, Pl.gapOf m = x := ⟨_, rfl⟩
      rw [hgg] at HG hgl hgbl
      rw [← hgl] at HG
      obtain ⟨A5, hcut, hV5⟩ := byte_from (Kd.V_F HG) (Kd.V_at HG).2.1 1 (by omega)
      rw [hgl] at hcut hV5 HG
      replace hcut := hcut .i64 1 rfl
      have hgs : (gg.drop 1).length = M := by simp; omega
      have hgsb := Lib.hid (show ∀ c ∈ gg.drop 1, Pl.isBl c = true from fun c hc => hgbl.out c (List.mem_of_mem_drop hc))
      obtain ⟨gs, hgsx⟩ : ∃ x, gg.drop 1 = x := ⟨_, rfl⟩
      rw [hgsx] at hV5 hgs hgsb
      have HG1 := Lib.hid (Kd.V_mono hV5 (fun _ _ => trivial))
      have HGG := Lib.hid HG
      have HGS := Lib.hid hgs
      have HGL := Lib.hid hgl
      have hgs40 : gs.length ≤ 4 := by omega
      have hgg40 : gg.length ≤ 5 := by omega
      have hgne := Lib.hid (show gg ≠ [] from fun h => by rw [h] at hgl; simp at hgl)
      clear hV5 HG hgg hgsx hgs hgl
      go_upto_region 11 with (first | ((with_reducible refine gate_builtin (b := .append) (xs := #[.tmp 41, .tmp 43]) rfl ?_); at_builtin; refine appN (w0 := wr) wr.heap.size rfl (.tmp 41) (.tmp 43) rfl _ _ ([]) (gs) rfl rfl (Own.nil _ _ _ _) HG1.out (Below.refl _ _) (Nat.le_refl _) ?_ ?_; (simp; omega); intro v5 w5 ho5 hb5 hg5 hat5; have HO5 := Lib.hid ho5; have HB5 := Lib.hid hb5; clear ho5 hb5 hg5 hat5) | ((with_reducible refine gate_builtin (b := .append) (xs := #[.tmp 44, .tmp 45]) rfl ?_); at_builtin; refine appN (w0 := wr) wr.heap.size rfl (.tmp 44) (.tmp 45) rfl _ _ ([] ++ gs) (xs) rfl rfl HO5.out (HX.out.below (bthen HB.out HB5.out)) HB5.out (HB5.out).size ?_ ?_; (simp; omega); intro v6 w6 ho6 hb6 hg6 hat6; have HO6 := Lib.hid ho6; have HB6 := Lib.hid hb6; clear ho6 hb6 hg6 hat6) | ((with_reducible refine gate_builtin (b := .append) (xs := #[.tmp 46, .tmp 47]) rfl ?_); at_builtin; refine appN (w0 := wr) wr.heap.size rfl (.tmp 46) (.tmp 47) rfl _ _ ([] ++ gs ++ xs) (gg) rfl rfl HO6.out (HGG.out.below HB6.out) HB6.out (HB6.out).size ?_ ?_; (simp; omega); intro v7 w7 ho7 hb7 hg7 hat7; have HO7 := Lib.hid ho7; have HB7 := Lib.hid hb7; clear ho7 hb7 hg7 hat7) | ((with_reducible refine gate_builtin (b := .append) (xs := #[.tmp 48, .tmp 49]) rfl ?_); at_builtin; refine appN (w0 := wr) wr.heap.size rfl (.tmp 48) (.tmp 49) rfl _ _ ([] ++ gs ++ xs ++ gg) (ys) rfl rfl HO7.out (HY.out.below (bthen HB.out HB7.out)) HB7.out (HB7.out).size ?_ ?_; (simp; omega); intro v8 w8 ho8 hb8 hg8 hat8; have HO8 := Lib.hid ho8; have HB8 := Lib.hid hb8; clear ho8 hb8 hg8 hat8))
      have hED := Pl.edge_two gs xs gg ys gs hgsb.out hgbl.out hgsb.out hgne.out hxn.out hyn.out ⟨hxl1, hxl2⟩ ⟨hyl1, hyl2⟩
      obtain ⟨ln, hln⟩ : ∃ l, [] ++ gs ++ xs ++ gg ++ ys ++ gs = l := ⟨_, rfl⟩
      have hll : ln.length ≤ 1000 := by rw [← hln]; simp; omega
      rw [show gs ++ xs ++ gg ++ ys ++ gs = ln by rw [← hln, List.nil_append]] at hED
      have HED := Lib.hid hED
      have HLN := Lib.hid hln
      clear hED hln
      go_wp2_with ((with_reducible refine gate_builtin (b := .append) (xs := #[.tmp 51, .tmp 53]) rfl ?_); at_builtin; refine appN (w0 := wr) wr.heap.size rfl (.tmp 51) (.tmp 53) rfl _ _ ([] ++ gs ++ xs ++ gg ++ ys) (gs) rfl rfl HO8.out (Rd.below HG1.out HB8.out) HB8.out HB8.out.size ?_ ?_; (simp; omega); intro v9 w9 ho9 hb9 hg9 hat9; rw [HLN.out] at ho9; obtain ⟨A9, c9, hv9⟩ := Kd.N_slice ho9; subst hv9; have HO9 := Lib.hid ho9; have HB9 := Lib.hid hb9; clear ho9 hb9 hg9 hat9)
      go_wp2_with fail
      have hpa := parse_any _ 7 _ false w9 HO9.out.rd (by omega) (by omega) (by omega)
      rw [HED.out] at hpa
      refine hpa.mono ?_
      rintro e w10 ⟨v10, v11, rfl, hoa, hob, hb10⟩
      obtain ⟨A10, c10, hva⟩ := Kd.N_slice hoa
      obtain ⟨A11, c11, hvb⟩ := Kd.N_slice hob
      subst hva hvb
      have HOa := Lib.hid hoa
      have HOb := Lib.hid hob
      have HB10 := Lib.hid (bthen HB3.out (bthen HB.out (bthen HB9.out hb10)))
      have HX10 := Lib.hid (HX.out.below (bthen HB.out (bthen HB9.out hb10)))
      have HY10 := Lib.hid (HY.out.below (bthen HB.out (bthen HB9.out hb10)))
      have sa := fun o => byte_string (Rd.below hoa.rd (below_alloc (Below.refl w10.heap.size w10) o))
      have sb := fun o => byte_string (Rd.below hob.rd (below_alloc (Below.refl w10.heap.size w10) o))
      have sx := fun o => byte_string (Rd.below HX10.out (below_alloc (Below.refl w10.heap.size w10) o))
      have sy := fun o => byte_string (Rd.below HY10.out (below_alloc (Below.refl w10.heap.size w10) o))
      clear hpa hoa hob hb10
      go_wp2_with fail
      go_ret
      exact ⟨rfl, below_alloc HB10.out _⟩
end Go.Proofs.Ytjogbgiknnfinaa
