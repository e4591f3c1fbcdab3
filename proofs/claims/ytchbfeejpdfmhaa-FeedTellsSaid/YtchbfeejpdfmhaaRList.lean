import Derived.Test.YtchbfeejpdfmhaaPlainLine
/-! creelref07.cut, creelref07.List. -/
set_option linter.unusedSimpArgs false
set_option linter.unusedVariables false
namespace Go.Proofs.Ytchbfeejpdfmhaa
open Go.RowKit Go.Proofs.YtchbfeejpdfmhaaW.PrintWords Go.Proofs.YtchbfeejpdfmhaaW.PrintLast Go.Proofs.YtchbfeejpdfmhaaW.PrintMore

namespace Pl
theorem cut_trim (l : List UInt8) (f t : Nat) (h1 : f ≤ t) (h2 : t ≤ l.length) :
    (f < t ∧ l.getD (t - 1) 0 = 13 ∧ trimB 13 ((l.take t).drop f) = (l.take (t - 1)).drop f) ∨ (f < t ∧ l.getD (t - 1) 0 ≠ 13 ∧ trimB 13 ((l.take t).drop f) = (l.take t).drop f) ∨ (f = t ∧ trimB 13 ((l.take t).drop f) = (l.take t).drop f) := by
  have hlen : ((l.take t).drop f).length = t - f := by simp; omega
  rcases Nat.lt_or_ge f t with h | h
  · have hg : ((l.take t).drop f).getD (((l.take t).drop f).length - 1) 0 = l.getD (t - 1) 0 := by
      rw [hlen]
      simp only [List.getD, List.getElem?_drop, List.getElem?_take]
      rw [if_pos (by omega), show f + (t - f - 1) = t - 1 by omega]
    have hne : (l.take t).drop f ≠ [] := fun e => by rw [e] at hlen; simp at hlen; omega
    by_cases hd : l.getD (t - 1) 0 = 13
    · refine .inl ⟨h, hd, ?_⟩
      unfold trimB
      rw [if_pos ⟨hne, hg.trans hd⟩, hlen, List.take_drop, List.take_take]
      congr 2
      omega
    · refine .inr (.inl ⟨h, hd, ?_⟩)
      unfold trimB
      rw [if_neg (fun hh => hd (hg.symm.trans hh.2))]
  · obtain rfl : f = t := by omega
    refine .inr (.inr ⟨rfl, ?_⟩)
    have e : (l.take f).drop f = [] := List.eq_nil_of_length_eq_zero (by rw [hlen]; omega)
    rw [e]
    rfl
/-- no d up to k, and a d there -/
theorem cutLen_at (d : UInt8) (l : List UInt8) (f k : Nat) (h1 : f ≤ k) (h2 : k < l.length) (hd : l.getD k 0 = d) (hno : ∀ j, f ≤ j → j < k → l.getD j 0 ≠ d) : cutLen d (l.drop f) = k - f := by
  obtain ⟨n, rfl⟩ : ∃ n, k = f + n := ⟨k - f, by omega⟩
  clear h1
  rw [Nat.add_sub_cancel_left]
  induction n generalizing f with
  | zero =>
    rw [Nat.add_zero] at h2 hd
    rw [List.drop_eq_getElem_cons h2, cutLen, List.takeWhile_cons]
    have : l[f] = d := by simpa [List.getD, h2] using hd
    simp [this]
  | succ n ih =>
    have hf : f < l.length := by omega
    have h0 := hno f (Nat.le_refl _) (by omega)
    have e : ¬ l[f] = d := by simpa [List.getD, hf] using h0
    have := ih (f + 1) (by omega) (by rw [← hd]; congr 1; omega) (fun j k1 k2 => hno j (by omega) (by omega))
    rw [List.drop_eq_getElem_cons hf, cutLen, List.takeWhile_cons]
    simp only [cutLen] at this
    simp [e, this]
theorem cutLen_end (d : UInt8) (l : List UInt8) (f : Nat) (h : f ≤ l.length) (hno : ∀ j, f ≤ j → j < l.length → l.getD j 0 ≠ d) : cutLen d (l.drop f) = l.length - f := by
  have : (l.drop f).takeWhile (fun c => !(c == d)) = l.drop f := by
    have all : ∀ (m : List UInt8), (∀ c ∈ m, (!(c == d)) = true) → m.takeWhile (fun c => !(c == d)) = m := by
      intro m
      induction m with
      | nil => intro _; rfl
      | cons a m ih =>
        intro hm
        rw [List.takeWhile_cons, if_pos (hm a (by simp)), ih (fun c hc => hm c (by simp [hc]))]
    refine all _ fun c hc => ?_
    obtain ⟨i, hi, rfl⟩ := List.getElem_of_mem hc
    have hi2 : f + i < l.length := by simp at hi; omega
    have := hno (f + i) (by omega) hi2
    simp only [List.getElem_drop, Bool.not_eq_true', beq_eq_false_iff_ne, ne_eq]
    intro he
    apply this
    simp [List.getD, hi2, he]
  unfold cutLen
  rw [this, List.length_drop]
end Pl

set_option maxRecDepth 100000 in
set_option maxHeartbeats 4000000 in
theorem rcut_any (v : Value) (b : List UInt8) (f t : Nat) (w : World) (hv : Rd kb w v b) (h1 : f ≤ t) (h2 : t ≤ b.length) (hl : b.length ≤ 1099511627776) :
    Calls Try.prog 55 #[v, .int .i64 (f : Int), .int .i64 (t : Int)] w fun e w' => ∃ v', e = .returned (.agg #[.int .i64 (f : Int), v']) ∧ Own kb 5 w' w.heap.size v' (Pl.trimB 13 ((b.take t).drop f)) ∧ Below w.heap.size w w' := by
  have HR := Lib.hid hv
  obtain ⟨A, c, rfl, hc, hF⟩ := hv
  have hb1 := below_alloc (Below.refl w.heap.size w) (.cells #[.int .i64 0, .slice none 0 0] 26)
  have HL0 : (Own kb 5 ((w.alloc (.cells #[.int .i64 0, .slice none 0 0] 26)).alloc (.cells #[] 5)) (w.heap.size + 1) (.slice (some ⟨w.heap.size + 1, 0, none⟩) 0 0) []) := by
    have := lit_own (w.alloc (.cells #[.int .i64 0, .slice none 0 0] 26)) (w.heap.size + 1) [] [] rfl (by simp) (by simp)
    rw [World.size_alloc] at this
    exact this
  have HL := Lib.hid HL0
  clear HL0
  have HB0 : Below (w.heap.size + 1) (w.alloc (.cells #[.int .i64 0, .slice none 0 0] 26)) ((w.alloc (.cells #[.int .i64 0, .slice none 0 0] 26)).alloc (.cells #[] 5)) := by
    have := below_alloc (Below.refl (w.alloc (.cells #[.int .i64 0, .slice none 0 0] 26)).heap.size (w.alloc (.cells #[.int .i64 0, .slice none 0 0] 26))) (.cells #[] 5)
    rwa [World.size_alloc] at this
  rcases Pl.cut_trim b f t h1 h2 with ⟨h3, h4, h5⟩ | ⟨h3, h4, h5⟩ | ⟨h3, h5⟩
  · have HE := Lib.hid h5
    have hce := kb_cell hF (t - 1) (by omega)
    obtain ⟨ad, rfl, hce⟩ := hce
    rw [h4] at hce
    obtain ⟨A2, hcut, hV⟩ := byte_cut hF hc f (t - 1) (by omega) (by omega)
    replace hcut := hcut .i64 .i64 (f : Int) ((t : Int) - 1) rfl (by omega)
    have hV2 : Rd kb w _ _ := Kd.V_mono hV fun _ _ => trivial
    have hwr : IntKind.i64.wrap ((t : Int) - 1) = (t : Int) - 1 := IntWalk.i64_in _ (by omega)
    have hgt : decide ((f : Int) < (t : Int)) = true := by simp; omega
    have hi1 : (0 : Int) ≤ (t : Int) - 1 := by omega
    have hi2 : (t : Int) - 1 < (b.length : Int) := by omega
    have hi3 : ((t : Int) - 1).toNat = t - 1 := by omega
    have hlt : (ad.add (t - 1)).block < w.heap.size := World.block_lt_of_cell? _ (ad.add (t - 1)) hce
    have hce1 := (hb1.cell (p := ad.add (t - 1)) hlt).trans hce
    have hys : ((b.take (t - 1)).drop f).length = t - 1 - f := by simp; omega
    rw [← hys] at hV2
    obtain ⟨ys, hyy⟩ : ∃ ys, (b.take (t - 1)).drop f = ys := ⟨_, rfl⟩
    rw [hyy] at hV2 hys HE
    rw [← hys] at hcut
    have hyl : ys.length ≤ b.length := by omega
    have HV2 := Lib.hid hV2
    clear h5 hV h4 hF hV2 hys hyy
    go_enter Try.func55, Try.ntmps55
    go_wp2_with ((with_reducible refine gate_builtin (b := .append) (xs := #[.tmp 21, .tmp 25]) rfl ?_); at_builtin; refine appN (w0 := w.alloc (.cells #[.int .i64 0, .slice none 0 0] 26)) (w.heap.size + 1) rfl (.tmp 21) (.tmp 25) rfl _ _ ([]) (ys) rfl rfl HL.out (Rd.below HV2.out (below_alloc hb1 _)) HB0 (by simp) ?_ ?_; (simp; omega); intro v5 w5 ho5 hb5 hg5 hat5; rw [List.nil_append] at ho5; obtain ⟨A5, c5, hv5⟩ := Kd.N_slice ho5; subst hv5; have KB := (Blk.new w #[.int .i64 0, .slice none 0 0] 26).below hb5 (by omega); obtain ⟨kc, kf⟩ := KB.cell; have k0 := kc 0; have k1 := kc 1; have HO5 := Lib.hid ho5; have HB5 := Lib.hid hb5; clear ho5 hb5 hg5 hat5)
    have e0 := ((KB.set (cs' := #[.int .i64 (f : Int), .slice none 0 0]) 0 (.int .i64 (f : Int)) rfl).set (cs' := #[.int .i64 (f : Int), .slice A5 ys.length c5]) 1 (.slice A5 ys.length c5) rfl).cell.1
    have z0 := e0 0
    have z1 := e0 1
    have hw5 : w.heap.size ≤ w.heap.size + 1 := by omega
    have hB5 : Below w.heap.size w w5 := hb1.trans (HB5.out.mono hw5)
    refine bodyPost_ret (v := .agg #[.int .i64 (f : Int), .slice A5 ys.length c5]) (by simp [results, Try.results55, Try.f55, go_sem, loadCells, z0, z1]) rfl ?_
    refine ⟨_, rfl, ?_, (hB5.setCell (p := ⟨w.heap.size, 0, none⟩) (Nat.le_refl _) _).setCell (p := ⟨w.heap.size, 1, none⟩) (Nat.le_refl _) _⟩
    rw [HE.out]
    exact Own.lower (Own.far (p := ⟨w.heap.size, 1, none⟩) (Own.far (p := ⟨w.heap.size, 0, none⟩) HO5.out (by show w.heap.size < w.heap.size + 1; omega) _) (by show w.heap.size < w.heap.size + 1; omega) _) (by omega)
  · have HE := Lib.hid h5
    have hce := kb_cell hF (t - 1) (by omega)
    obtain ⟨ad, rfl, hce⟩ := hce
    obtain ⟨d, hd⟩ : ∃ d, b.getD (t - 1) 0 = d := ⟨_, rfl⟩
    rw [hd] at hce h4
    have he : ((d.toNat : Int) == 13) = false := (u8_beq d 13).trans (beq_false_of_ne h4)
    obtain ⟨A2, hcut, hV⟩ := byte_cut hF hc f t (by omega) (by omega)
    replace hcut := hcut .i64 .i64 (f : Int) (t : Int) rfl rfl
    have hV2 : Rd kb w _ _ := Kd.V_mono hV fun _ _ => trivial
    have hwr : IntKind.i64.wrap ((t : Int) - 1) = (t : Int) - 1 := IntWalk.i64_in _ (by omega)
    have hgt : decide ((f : Int) < (t : Int)) = true := by simp; omega
    have hi1 : (0 : Int) ≤ (t : Int) - 1 := by omega
    have hi2 : (t : Int) - 1 < (b.length : Int) := by omega
    have hi3 : ((t : Int) - 1).toNat = t - 1 := by omega
    have hlt : (ad.add (t - 1)).block < w.heap.size := World.block_lt_of_cell? _ (ad.add (t - 1)) hce
    have hce1 := (hb1.cell (p := ad.add (t - 1)) hlt).trans hce
    have hys : ((b.take t).drop f).length = t - f := by simp; omega
    rw [← hys] at hV2
    obtain ⟨ys, hyy⟩ : ∃ ys, (b.take t).drop f = ys := ⟨_, rfl⟩
    rw [hyy] at hV2 hys HE ⊢
    rw [← hys] at hcut
    have hyl : ys.length ≤ b.length := by omega
    have HV2 := Lib.hid hV2
    clear h5 hV h4 hF hV2 hys hyy hd
    go_enter Try.func55, Try.ntmps55
    go_wp2_with ((with_reducible refine gate_builtin (b := .append) (xs := #[.tmp 21, .tmp 25]) rfl ?_); at_builtin; refine appN (w0 := w.alloc (.cells #[.int .i64 0, .slice none 0 0] 26)) (w.heap.size + 1) rfl (.tmp 21) (.tmp 25) rfl _ _ ([]) (ys) rfl rfl HL.out (Rd.below HV2.out (below_alloc hb1 _)) HB0 (by simp) ?_ ?_; (simp; omega); intro v5 w5 ho5 hb5 hg5 hat5; rw [List.nil_append] at ho5; obtain ⟨A5, c5, hv5⟩ := Kd.N_slice ho5; subst hv5; have KB := (Blk.new w #[.int .i64 0, .slice none 0 0] 26).below hb5 (by omega); obtain ⟨kc, kf⟩ := KB.cell; have k0 := kc 0; have k1 := kc 1; have HO5 := Lib.hid ho5; have HB5 := Lib.hid hb5; clear ho5 hb5 hg5 hat5)
    have e0 := ((KB.set (cs' := #[.int .i64 (f : Int), .slice none 0 0]) 0 (.int .i64 (f : Int)) rfl).set (cs' := #[.int .i64 (f : Int), .slice A5 ys.length c5]) 1 (.slice A5 ys.length c5) rfl).cell.1
    have z0 := e0 0
    have z1 := e0 1
    have hw5 : w.heap.size ≤ w.heap.size + 1 := by omega
    have hB5 : Below w.heap.size w w5 := hb1.trans (HB5.out.mono hw5)
    refine bodyPost_ret (v := .agg #[.int .i64 (f : Int), .slice A5 ys.length c5]) (by simp [results, Try.results55, Try.f55, go_sem, loadCells, z0, z1]) rfl ?_
    refine ⟨_, rfl, ?_, (hB5.setCell (p := ⟨w.heap.size, 0, none⟩) (Nat.le_refl _) _).setCell (p := ⟨w.heap.size, 1, none⟩) (Nat.le_refl _) _⟩
    rw [HE.out]
    exact Own.lower (Own.far (p := ⟨w.heap.size, 1, none⟩) (Own.far (p := ⟨w.heap.size, 0, none⟩) HO5.out (by show w.heap.size < w.heap.size + 1; omega) _) (by show w.heap.size < w.heap.size + 1; omega) _) (by omega)
  · have HE := Lib.hid h5
    subst h3
    obtain ⟨A2, hcut, hV⟩ := byte_cut hF hc f f (by omega) (by omega)
    replace hcut := hcut .i64 .i64 (f : Int) (f : Int) rfl rfl
    have hV2 : Rd kb w _ _ := Kd.V_mono hV fun _ _ => trivial
    have hgt : decide ((f : Int) < (f : Int)) = false := by simp
    have hys : ((b.take f).drop f).length = f - f := by simp
    rw [← hys] at hV2
    obtain ⟨ys, hyy⟩ : ∃ ys, (b.take f).drop f = ys := ⟨_, rfl⟩
    rw [hyy] at hV2 hys HE ⊢
    rw [← hys] at hcut
    have hyl : ys.length ≤ b.length := by omega
    have HV2 := Lib.hid hV2
    clear h5 hV hF hV2 hys hyy
    go_enter Try.func55, Try.ntmps55
    go_wp2_with ((with_reducible refine gate_builtin (b := .append) (xs := #[.tmp 21, .tmp 25]) rfl ?_); at_builtin; refine appN (w0 := w.alloc (.cells #[.int .i64 0, .slice none 0 0] 26)) (w.heap.size + 1) rfl (.tmp 21) (.tmp 25) rfl _ _ ([]) (ys) rfl rfl HL.out (Rd.below HV2.out (below_alloc hb1 _)) HB0 (by simp) ?_ ?_; (simp; omega); intro v5 w5 ho5 hb5 hg5 hat5; rw [List.nil_append] at ho5; obtain ⟨A5, c5, hv5⟩ := Kd.N_slice ho5; subst hv5; have KB := (Blk.new w #[.int .i64 0, .slice none 0 0] 26).below hb5 (by omega); obtain ⟨kc, kf⟩ := KB.cell; have k0 := kc 0; have k1 := kc 1; have HO5 := Lib.hid ho5; have HB5 := Lib.hid hb5; clear ho5 hb5 hg5 hat5)
    have e0 := ((KB.set (cs' := #[.int .i64 (f : Int), .slice none 0 0]) 0 (.int .i64 (f : Int)) rfl).set (cs' := #[.int .i64 (f : Int), .slice A5 ys.length c5]) 1 (.slice A5 ys.length c5) rfl).cell.1
    have z0 := e0 0
    have z1 := e0 1
    have hw5 : w.heap.size ≤ w.heap.size + 1 := by omega
    have hB5 : Below w.heap.size w w5 := hb1.trans (HB5.out.mono hw5)
    refine bodyPost_ret (v := .agg #[.int .i64 (f : Int), .slice A5 ys.length c5]) (by simp [results, Try.results55, Try.f55, go_sem, loadCells, z0, z1]) rfl ?_
    refine ⟨_, rfl, ?_, (hB5.setCell (p := ⟨w.heap.size, 0, none⟩) (Nat.le_refl _) _).setCell (p := ⟨w.heap.size, 1, none⟩) (Nat.le_refl _) _⟩
    rw [HE.out]
    exact Own.lower (Own.far (p := ⟨w.heap.size, 1, none⟩) (Own.far (p := ⟨w.heap.size, 0, none⟩) HO5.out (by show w.heap.size < w.heap.size + 1; omega) _) (by show w.heap.size < w.heap.size + 1; omega) _) (by omega)

namespace Pl
theorem linesFrom_at (l : List UInt8) (f k : Nat) (h1 : f ≤ k) (h2 : k < l.length) (hd : l.getD k 0 = 10) (hno : ∀ j, f ≤ j → j < k → l.getD j 0 ≠ 10) : linesFrom f (l.drop f) = ((f : Int), trimB 13 ((l.take k).drop f)) :: linesFrom (k + 1) (l.drop (k + 1)) := by
  have hne : l.drop f ≠ [] := fun e => by have := congrArg List.length e; simp at this; omega
  rw [linesFrom_cons f hne, cutLen_at 10 l f k h1 h2 hd hno, List.drop_take, List.drop_drop, show f + (k - f + 1) = k + 1 by omega, show f + (k - f) + 1 = k + 1 by omega]
theorem linesFrom_last (l : List UInt8) (f : Nat) (h1 : f < l.length) (hno : ∀ j, f ≤ j → j < l.length → l.getD j 0 ≠ 10) : linesFrom f (l.drop f) = [((f : Int), trimB 13 ((l.take l.length).drop f))] := by
  have hne : l.drop f ≠ [] := fun e => by have := congrArg List.length e; simp at this; omega
  rw [linesFrom_cons f hne, cutLen_end 10 l f (by omega) hno, List.drop_take, List.drop_drop, List.drop_of_length_le (by omega : l.length ≤ f + (l.length - f + 1)), linesFrom_nil]
theorem linesFrom_in (n : Nat) : ∀ (off : Nat) (l : List UInt8), l.length ≤ n → ∀ x ∈ linesFrom off l, 0 ≤ x.1 ∧ x.1 + (x.2.length : Int) ≤ (off : Int) + (l.length : Int) := by
  induction n with
  | zero =>
    intro off l h x hx
    have : l = [] := List.eq_nil_of_length_eq_zero (by omega)
    subst this
    rw [linesFrom_nil] at hx
    simp at hx
  | succ n ih =>
    intro off l h x hx
    by_cases hl : l = []
    · subst hl; rw [linesFrom_nil] at hx; simp at hx
    · have hp := List.length_pos_iff.2 hl
      rw [linesFrom_cons off hl] at hx
      rcases List.mem_cons.1 hx with rfl | hx
      · have h1 := trimB_le 13 (l.take (cutLen 10 l))
        have h2 := cutLen_le 10 l
        simp only [List.length_take] at h1
        exact ⟨by simp, by simp; omega⟩
      · have h2 := cutLen_le 10 l
        by_cases hc : cutLen 10 l = l.length
        · rw [List.drop_of_length_le (by omega), linesFrom_nil] at hx
          simp at hx
        · have := ih _ (l.drop (cutLen 10 l + 1)) (by simp; omega) x hx
          simp only [List.length_drop] at this
          omega
theorem lines_in (l : List UInt8) : ∀ x ∈ lines l, 0 ≤ x.1 ∧ x.1 + (x.2.length : Int) ≤ (l.length : Int) := fun x hx => by
  have := linesFrom_in _ 0 l (Nat.le_refl _) x hx
  simpa using this
end Pl

set_option maxRecDepth 100000 in
set_option maxHeartbeats 4000000 in
theorem rlist_any (v : Value) (b : List UInt8) (w : World) (hv : Rd kb w v b) (hl : b.length ≤ 1048576) :
    Calls Try.prog 46 #[v] w fun e w' => ∃ v', e = .returned v' ∧ Own kLine 26 w' w.heap.size v' (Pl.lines b) ∧ Below w.heap.size w w' := by
  have HR := Lib.hid hv
  obtain ⟨A, c, rfl, hc, hF⟩ := hv
  have HF := Lib.hid hF
  clear hF
  go_enter Try.func46, Try.ntmps46
  go_wp2_with fail
  go_loopw [3, 4, 5] (fun o g i wr => ∃ (f k : Nat) (pre : List (Int × List UInt8)), g = .int .i64 (f : Int) ∧ i = .int .i64 (k : Int) ∧ Aside0 (f ≤ k ∧ k ≤ b.length ∧ pre.length ≤ k) ∧ Aside0 (Pl.lines b = pre ++ Pl.linesFrom f (b.drop f)) ∧ Aside0 (∀ j, f ≤ j → j < k → b.getD j 0 ≠ 10) ∧ Aside0 (Own kLine 26 wr w.heap.size o pre) ∧ Aside0 (Below w.heap.size w wr)) (fun _ _ i _ => b.length - (intOf i).toNat)
  case atStart => exact ⟨0, 0, [], rfl, rfl, ⟨by omega, by omega, by simp⟩, ⟨by simp [Pl.lines]⟩, ⟨fun j h1 h2 => by omega⟩, ⟨Own.nil _ _ _ _⟩, ⟨Below.refl _ _⟩⟩
  case round =>
    obtain ⟨f, k, pre, rfl, rfl, hk, hpre, hno, HO, HB⟩ := hrel
    have hk1 := hk.out.1
    have hk2 := hk.out.2.1
    have hpk := hk.out.2.2
    by_cases hlt : k < b.length
    · obtain ⟨ad, rfl, hce0⟩ := kb_cell HF.out k hlt
      have hlA : (ad.add k).block < w.heap.size := World.block_lt_of_cell? _ (ad.add k) hce0
      have hce := (HB.out.cell (p := ad.add k) hlA).trans hce0
      have q1 : (0 : Int) ≤ (k : Int) := by omega
      have q2 : (k : Int) < (b.length : Int) := by omega
      have hw1 : IntKind.i64.wrap ((k : Int) + 1) = (k : Int) + 1 := IntWalk.i64_in _ (by omega)
      by_cases hten : b.getD k 0 = 10
      · rw [hten] at hce
        have HP := Lib.hid (Pl.linesFrom_at b f k hk1 hlt hten hno.out)
        have HRw := Lib.hid (Rd.below HR.out HB.out)
        obtain ⟨ys, hys⟩ : ∃ ys, Pl.trimB 13 ((b.take k).drop f) = ys := ⟨_, rfl⟩
        rw [hys] at HP
        have hcut := rcut_any _ b f k wr HRw.out hk1 hk2 (by omega)
        rw [hys] at hcut
        have HC := Lib.hid hcut
        clear hcut hys hten hce0
        go_wp2_with (first | (go_at_call 55; refine HC.out.mono ?_; rintro e w2 ⟨v2, rfl, ho2, hb2⟩; obtain ⟨A3, c3, hv2⟩ := Kd.N_slice ho2; subst hv2; have HO2 := Lib.hid ho2; have HB2 := Lib.hid hb2; clear ho2 hb2) | ((with_reducible refine gate_builtin (b := .append) (xs := #[.tmp 17, .tmp 22]) rfl ?_); at_builtin; refine Kd.N_append kLine (w0 := w) w.heap.size rfl (.tmp 17) (.tmp 22) 32 26 (.agg #[(.int .i64 0), (.slice none 0 0)]) 32 rfl Try.underlying32 infoLine rfl (by decide) (by omega) _ pre ((f : Int), ys) [.int .i64 (f : Int), .slice A3 ys.length c3] (fun k => w.heap.size ≤ k) (fun k => wr.heap.size ≤ k) rfl rfl ?aP ?aQ ?aF ?aO ?aB ?aS ?aL ?_; (case aP => exact line_FK HO2.out.v); (case aQ => exact fun j hj => ⟨Nat.le_trans HB.out.size hj, fun he => by have := HO.out.lt j he.symm; omega⟩); (case aF => exact fun j hj => Nat.le_trans (Nat.le_trans HB.out.size HB2.out.size) hj); (case aO => exact Kd.N_below HO.out HB2.out); (case aB => exact bthen HB.out HB2.out); (case aS => exact Nat.le_trans HB.out.size HB2.out.size); (case aL => omega); intro v5 w5 ho5 hb5 hg5 hat5))
        go_roundw
        case rel => exact ⟨k + 1, k + 1, _, by go_num, by go_num, ⟨by omega, by omega, by simp; omega⟩, ⟨by rw [hpre.out, HP.out]; simp⟩, ⟨fun j h1 h2 => by omega⟩, ⟨ho5⟩, ⟨hb5⟩⟩
        case measure => simp [intOf]; omega
      · obtain ⟨d, hd⟩ : ∃ d, b.getD k 0 = d := ⟨_, rfl⟩
        rw [hd] at hce hten
        have he : ((d.toNat : Int) == 10) = false := (u8_beq d 10).trans (beq_false_of_ne hten)
        have Hd := Lib.hid hd
        clear hd hce0
        go_wp2_with fail
        go_roundw
        case rel => exact ⟨f, k + 1, _, rfl, by go_num, ⟨by omega, by omega, by omega⟩, hpre, ⟨fun j h1 h2 => by
          rcases Nat.lt_or_ge j k with h | h
          · exact hno.out j h1 h
          · obtain rfl : j = k := by omega
            rw [Hd.out]
            exact hten⟩, HO, HB⟩
        case measure => simp [intOf]; omega
    · obtain rfl : k = b.length := by omega
      have hd : decide ((b.length : Int) < (b.length : Int)) = false := by simp
      by_cases hf : f < b.length
      · have hd2 : decide ((f : Int) < (b.length : Int)) = true := by simp; omega
        have HP := Lib.hid (Pl.linesFrom_last b f hf hno.out)
        have HRw := Lib.hid (Rd.below HR.out HB.out)
        obtain ⟨ys, hys⟩ : ∃ ys, Pl.trimB 13 ((b.take b.length).drop f) = ys := ⟨_, rfl⟩
        rw [hys] at HP
        have hcut := rcut_any _ b f b.length wr HRw.out hk1 (Nat.le_refl _) (by omega)
        rw [hys] at hcut
        have HC := Lib.hid hcut
        obtain ⟨wb, hwb⟩ : ∃ y, y = wr := ⟨_, rfl⟩
        subst hwb
        clear hcut hys
        go_wp2_with (first | (go_at_call 55; refine HC.out.mono ?_; rintro e w2 ⟨v2, rfl, ho2, hb2⟩; obtain ⟨A3, c3, hv2⟩ := Kd.N_slice ho2; subst hv2; have HO2 := Lib.hid ho2; have HB2 := Lib.hid hb2; clear ho2 hb2) | ((with_reducible refine gate_builtin (b := .append) (xs := #[.tmp 30, .tmp 36]) rfl ?_); at_builtin; refine Kd.N_append kLine (w0 := w) w.heap.size rfl (.tmp 30) (.tmp 36) 32 26 (.agg #[(.int .i64 0), (.slice none 0 0)]) 32 rfl Try.underlying32 infoLine rfl (by decide) (by omega) _ pre ((f : Int), ys) [.int .i64 (f : Int), .slice A3 ys.length c3] (fun k => w.heap.size ≤ k) (fun k => wb.heap.size ≤ k) rfl rfl ?aP ?aQ ?aF ?aO ?aB ?aS ?aL ?_; (case aP => exact line_FK HO2.out.v); (case aQ => exact fun j hj => ⟨Nat.le_trans HB.out.size hj, fun he => by have := HO.out.lt j he.symm; omega⟩); (case aF => exact fun j hj => Nat.le_trans (Nat.le_trans HB.out.size HB2.out.size) hj); (case aO => exact Kd.N_below HO.out HB2.out); (case aB => exact bthen HB.out HB2.out); (case aS => exact Nat.le_trans HB.out.size HB2.out.size); (case aL => omega); intro v5 w5 ho5 hb5 hg5 hat5))
        go_ret
        exact ⟨_, rfl, by rw [hpre.out, HP.out]; exact ho5, hb5⟩
      · obtain rfl : f = b.length := by omega
        go_wp2_with fail
        go_ret
        exact ⟨_, rfl, by rw [hpre.out, List.drop_of_length_le (Nat.le_refl _), Pl.linesFrom_nil, List.append_nil]; exact HO.out, HB.out⟩
end Go.Proofs.Ytchbfeejpdfmhaa
