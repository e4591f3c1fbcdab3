import Derived.Test.YtchbfeejpdfmhaaFeedAll
import Derived.Test.YtchbfeejpdfmhaaSameAll8
/-! creellaw11.list. -/
set_option linter.unusedSimpArgs false
set_option linter.unusedVariables false
namespace Go.Proofs.Ytchbfeejpdfmhaa
open Go.RowKit Go.Shelf Go.Proofs.YtchbfeejpdfmhaaW.PrintWords Go.Proofs.YtchbfeejpdfmhaaW.PrintLast Go.Proofs.YtchbfeejpdfmhaaW.PrintMore
attribute [local go_sem] Oper.semAt_some

namespace Pl
theorem lines_sum (n : Nat) : ∀ (off : Nat) (l : List UInt8), l.length ≤ n → ((linesFrom off l).map (fun x => x.2.length + 1)).sum ≤ l.length + 1 := by
  induction n with
  | zero =>
    intro off l h
    have : l = [] := List.eq_nil_of_length_eq_zero (by omega)
    subst this
    rw [linesFrom_nil]
    simp
  | succ n ih =>
    intro off l h
    by_cases hl : l = []
    · subst hl; rw [linesFrom_nil]; simp
    · have hp := List.length_pos_iff.2 hl
      rw [linesFrom_cons off hl]
      have h1 := trimB_le 13 (l.take (cutLen 10 l))
      have h2 := cutLen_le 10 l
      simp only [List.length_take] at h1
      simp only [List.map_cons, List.sum_cons]
      by_cases hc : cutLen 10 l = l.length
      · rw [List.drop_of_length_le (by omega), linesFrom_nil]
        simp
        omega
      · have := ih (off + cutLen 10 l + 1) (l.drop (cutLen 10 l + 1)) (by simp; omega)
        simp only [List.length_drop] at this
        omega
theorem rawOf_le (c : Cfg) (x : Int × List UInt8) : (rawOf c x).length ≤ x.2.length + 1 := by
  unfold rawOf
  split
  · simp
  · split
    · simp
    · exact adj_le _ _ _
theorem flat_le (c : Cfg) (l : List (Int × List UInt8)) : (l.flatMap (rawOf c)).length ≤ (l.map (fun x => x.2.length + 1)).sum := by
  induction l with
  | nil => simp
  | cons x r ih =>
    have := rawOf_le c x
    simp only [List.flatMap_cons, List.length_append, List.map_cons, List.sum_cons]
    omega
theorem chunks_le (n : Nat) : ∀ b : List UInt8, b.length ≤ n → (chunks b).length ≤ b.length := by
  induction n with
  | zero =>
    intro b h
    have : b = [] := List.eq_nil_of_length_eq_zero (by omega)
    subst this
    rw [chunks_nil]
    simp
  | succ n ih =>
    intro b h
    by_cases hb : b = []
    · subst hb; rw [chunks_nil]; simp
    · have hp := List.length_pos_iff.2 hb
      rw [chunks_cons hb]
      have := ih (b.drop 8) (by simp; omega)
      simp only [List.length_drop] at this
      simp only [List.length_cons]
      omega
theorem dumpOf_len (l : List (List UInt8)) : ∀ at_ : Int, (dumpOf at_ l).length = l.length := by
  induction l with
  | nil => intro _; rfl
  | cons x r ih => intro a; simp [dumpOf, ih]
theorem raw_len (b : List UInt8) (c : Cfg) : (rawItems b c).length ≤ b.length + 1 := by
  unfold rawItems
  split
  · unfold dump
    split
    · rw [dumpOf_len]
      have := chunks_le _ (b.drop 8) (Nat.le_refl _)
      simp only [List.length_drop] at this
      omega
    · simp
  · exact Nat.le_trans (flat_le c _) (lines_sum _ 0 b (Nat.le_refl _))
theorem firstBad_len (l : List ItT) : (firstBad l).length ≤ l.length := by
  induction l with
  | nil => simp [firstBad]
  | cons x r ih =>
    unfold firstBad
    split <;> simp
    exact ih
theorem items_len (b : List UInt8) (c : Cfg) : (items b c).length ≤ b.length + 1 := by
  have h := raw_len b c
  unfold items
  split
  · unfold cutBad
    split
    · exact Nat.le_trans (List.length_filter_le _ _) h
    · exact Nat.le_trans (firstBad_len _) h
  · simp
end Pl

theorem fall_any (v : Value) (b : List UInt8) (c : Pl.Cfg) (w : World) (hv : Rd kb w v b) :
    Calls Try.prog 22 #[v, cfgV c] w fun e w' => e = .returned (.func (.func 35) #[] #[.pointer (some ⟨w.heap.size + 1, 0, none⟩), .pointer (some ⟨w.heap.size, 0, none⟩)]) ∧ w' = (w.alloc (.cells #[v] 22)).alloc (.cells (cfgC c) 40) := by
  obtain ⟨A, cc, rfl⟩ := Kd.V_slice hv
  clear hv
  go_enter Try.func22, Try.ntmps22
  go_wp2_with fail
  go_ret
  exact ⟨rfl, rfl⟩

/-- Between two rounds of a loop that lists. -/
structure LI (s : Nat) (w1 : World) (G : Nat → Prop) (pre : List ItemX) (W : World) : Prop where
  bel : Moves (fun k => k = s) w1 W
  g : G s
  o : ∃ v, Blk W s #[v] 29 ∧ (∀ k, v.ownBlock = some k → G k) ∧ kItem.R 36 W w1.heap.size (fun k => w1.heap.size ≤ k ∧ (G k ∨ ∃ x ∈ pre, ItemHand x k)) v (pre.map ItemX.it)
theorem li_stable {s : Nat} {w1 : World} (hs : s < w1.heap.size) : Stable ItemHand w1.heap.size (LI s w1) := by
  rintro G pre A B ⟨h1, h2, ⟨v, h3, h4, h5⟩⟩ hst
  have := h1.size
  refine ⟨⟨hst.os.trans h1.os, hst.tape.trans h1.tape, hst.output.trans h1.output, Nat.le_trans h1.size hst.size, fun k hk hn => (hst.block k (by omega) (.inl hk)).trans (h1.block k hk hn)⟩, h2, ⟨v, ⟨(hst.block _ (by omega) (.inl hs)).trans h3.out⟩, h4, Kd.R_step h5 (fun k hk hlt => hst.block k hlt (.inr hk.2))⟩⟩

set_option maxRecDepth 100000 in
set_option maxHeartbeats 4000000 in
theorem list11_any (v : Value) (b : List UInt8) (c : Pl.Cfg) (w : World) (hv : Rd kb w v b) (hl : b.length ≤ 1048576) :
    Calls Try.prog 20 #[v, cfgV c] w fun e w' => ∃ v', e = .returned (.tuple #[v', .bool true]) ∧ OwnI w' w.heap.size v' (Pl.items b c) ∧ Below w.heap.size w w' := by
  have HR := Lib.hid hv
  obtain ⟨A, cc, hvA⟩ := Kd.V_slice hv
  subst hvA
  clear hv
  refine (callsIn_wide (n := 9)).1 ?_
  refine callsIn_of_wp_marks Try.func20 rfl trivial ?_ rfl
  simp only [Try.ntmps20, List.size_toArray, List.length_cons, List.length_nil, Nat.reduceAdd, Nat.reduceSub, Array.replicate_succ, Array.replicate_zero, List.push_toArray, List.append_toArray, List.nil_append, List.cons_append]
  gi_wp2
  refine ⟨trivial, callsIn_at fun W1 hW1 => ?_⟩
  have hb1 : Below w.heap.size w W1 := by rw [← hW1]; exact below_alloc (below_alloc (below_alloc (below_alloc (below_alloc (Below.refl _ _) _) _) _) _) _
  have hs1 : W1.heap.size = w.heap.size + 5 := by rw [← hW1]; simp
  have K0 := ((((Blk.new w #[.slice A b.length cc] 22).alloc (.cells (cfgC c) 40)).alloc (.cells #[.slice none 0 0] 29)).alloc (.cells #[.bool false] 4)).alloc (.cells #[.slice none 0 0] 29)
  have K2 := ((Blk.new ((w.alloc (.cells #[.slice A b.length cc] 22)).alloc (.cells (cfgC c) 40)) #[.slice none 0 0] 29).alloc (.cells #[.bool false] 4)).alloc (.cells #[.slice none 0 0] 29)
  have K3 := (Blk.new (((w.alloc (.cells #[.slice A b.length cc] 22)).alloc (.cells (cfgC c) 40)).alloc (.cells #[.slice none 0 0] 29)) #[.bool false] 4).alloc (.cells #[.slice none 0 0] 29)
  have K4 := Blk.new ((((w.alloc (.cells #[.slice A b.length cc] 22)).alloc (.cells (cfgC c) 40)).alloc (.cells #[.slice none 0 0] 29)).alloc (.cells #[.bool false] 4)) #[.slice none 0 0] 29
  rw [hW1] at K0 K2 K3 K4
  simp only [World.size_alloc] at K2 K3 K4
  clear hW1
  refine (callsIn_wide.2 (fall_any _ b c W1 (Rd.below HR.out hb1))).mono ?_
  rintro e Wa ⟨rfl, hWa⟩
  have hba : Below W1.heap.size W1 Wa := by rw [hWa]; exact below_alloc (below_alloc (Below.refl _ _) _) _
  have hsa : Wa.heap.size = w.heap.size + 7 := by rw [hWa]; simp [hs1]
  have KBb : Blk Wa W1.heap.size #[.slice A b.length cc] 22 := by rw [hWa]; exact (Blk.new _ _ _).alloc _
  have KCc : Blk Wa (W1.heap.size + 1) (cfgC c) 40 := by
    rw [hWa]
    have := Blk.new (W1.alloc (.cells #[.slice A b.length cc] 22)) (cfgC c) 40
    simpa using this
  clear hWa
  have hsl : w.heap.size + 7 ≤ Wa.heap.size := by omega
  clear hsa
  rw [hs1] at KBb KCc
  have hbA := bthen hb1 hba
  have J0 := K0.belowW hba
  have J2 := K2.belowW hba
  have J3 := K3.belowW hba
  have J4 := K4.belowW hba
  clear K0 K2 K3 K4
  have hnil : ∀ (cap : Array Value) (W : World), (binOp .eql 45 (.func (.func 35) #[] cap) Value.nilFunc).run Try.prog W = .ok (.bool false) W := fun cap W => by kernel_rfl
  gi_wp2
  obtain ⟨Cap, hCap⟩ : ∃ Cap : Nat → Prop, ∀ k, Cap k ↔ (k < w.heap.size ∨ k = w.heap.size + 5 ∨ k = w.heap.size + 5 + 1) := ⟨fun k => _, fun k => Iff.rfl⟩
  have hC : ∀ k, Cap k → k < Wa.heap.size := fun k hk => by have := (hCap k).1 hk; omega
  have hcl : Wa.cell? ⟨w.heap.size + 5, 0, none⟩ = some (.slice A b.length cc) := KBb.cell.1 0
  have hsq := fall1_seq2 (w.heap.size + 5 + 1) (w.heap.size + 5) _ b c hl w Wa hbA Cap (fun k hk => (hCap k).2 (.inl hk)) hC ((hCap _).2 (.inr (.inl rfl))) ((hCap _).2 (.inr (.inr rfl))) hcl KCc HR.out
  have heg := enters_of Try.func35 (P := Try.prog) (f := 35) (by kernel_rfl) rfl
  clear hcl KBb KCc
  have hst : Stable ItemHand Wa.heap.size (LI (w.heap.size + 4) Wa) := li_stable (by omega)
  have hst2 : ∀ _ : Code, Stable ItemHand Wa.heap.size (fun _ _ _ => False) := fun _ _ _ _ _ h _ => h
  have hG0 : ∀ k, (fun k => k = w.heap.size + 4) k → k < Wa.heap.size ∧ ¬ Cap k := fun k hk => by
    have hk' : k = w.heap.size + 4 := hk
    exact ⟨by omega, fun h => by have := (hCap k).1 h; omega⟩
  have hI0 : LI (w.heap.size + 4) Wa (fun k => k = w.heap.size + 4) [] Wa := ⟨Moves.refl _ _, rfl, ⟨_, J4, fun k hk => by simp [Value.ownBlock] at hk, by simpa using Kd.R_nil kItem 36 Wa Wa.heap.size _⟩⟩
  refine range_seq2 rfl heg hsq (fun _ => rfl) hC (LI (w.heap.size + 4) Wa) (fun _ _ _ _ => False) hst hst2 (fun k => k = w.heap.size + 4) hG0 hI0 ?round ?done ?stop
  case stop => exact fun _ _ _ _ _ h _ _ => h.elim
  case done =>
    intro G xs W hS hI hne hD
    obtain ⟨v1, ho, hv1G, hr⟩ := hI.o
    rw [hS] at hr
    have hrI : OwnI W w.heap.size v1 (Pl.items b c) := Kd.R_mono (Kd.R_lower hr (by omega)) (fun k hk => by have := hk.1; omega)
    obtain ⟨A1, c1, hv1⟩ := Kd.R_slice hrI
    subst hv1
    have hgt : ∀ k, (Value.slice A1 (Pl.items b c).length c1).ownBlock = some k → Wa.heap.size ≤ k := fun k hk => (hr.1 k hk).1
    have hmv := hI.bel
    have J2w : Blk W (w.heap.size + 1 + 1) #[.slice none 0 0] 29 := ⟨(hmv.block _ (by omega) (by omega)).trans J2.out⟩
    have J3w : Blk W (w.heap.size + 1 + 1 + 1) #[.bool false] 4 := ⟨(hmv.block _ (by omega) (by omega)).trans J3.out⟩
    obtain ⟨ho1, ho2⟩ := ho.cell
    obtain ⟨hr1, hr2⟩ := J2w.cell
    obtain ⟨hk1, hk2⟩ := J3w.cell
    have hsW := hmv.size
    have HR6 := Lib.hid hr
    have HMV := Lib.hid hmv
    clear hrI hr hmv
    gi_wp2
    have hD2 : ((W.setCell ⟨w.heap.size + 1 + 1, 0, none⟩ (.slice A1 (Pl.items b c).length c1)).setCell ⟨w.heap.size + 1 + 1 + 1, 0, none⟩ (.bool true)).heap[Wa.heap.size]? = some (.deferred (some [])) :=
      (Below.heap_setCell _ ⟨w.heap.size + 1 + 1 + 1, 0, none⟩ _ _ (by show Wa.heap.size ≠ w.heap.size + 1 + 1 + 1; omega)).trans ((Below.heap_setCell _ ⟨w.heap.size + 1 + 1, 0, none⟩ _ _ (by show Wa.heap.size ≠ w.heap.size + 1 + 1; omega)).trans hD)
    refine ⟨by simp, .inl ⟨_, _, rfl, run_takeDeferred hD2, ?_⟩⟩
    have kr := ((J2w.set (cs' := #[.slice A1 (Pl.items b c).length c1]) 0 (.slice A1 (Pl.items b c).length c1) rfl).far (p := ⟨w.heap.size + 1 + 1 + 1, 0, none⟩) (by show w.heap.size + 1 + 1 ≠ w.heap.size + 1 + 1 + 1; omega) (.bool true)).grown (grownBy_putObj' _ Wa.heap.size (.deferred none)) (fun he => by injection he with he; omega)
    have kk := ((J3w.far (p := ⟨w.heap.size + 1 + 1, 0, none⟩) (by show w.heap.size + 1 + 1 + 1 ≠ w.heap.size + 1 + 1; omega) (.slice A1 (Pl.items b c).length c1)).set (cs' := #[.bool true]) 0 (.bool true) rfl).grown (grownBy_putObj' _ Wa.heap.size (.deferred none)) (fun he => by injection he with he; omega)
    have er := kr.cell.1 0
    have ek := kk.cell.1 0
    have hB : Below w.heap.size w W := hbA.trans (HMV.out.below (by omega) (fun k hk => by omega))
    have hbW := ((hB.setCell (p := ⟨w.heap.size + 1 + 1, 0, none⟩) (by show w.heap.size ≤ w.heap.size + 1 + 1; omega) (.slice A1 (Pl.items b c).length c1)).setCell (p := ⟨w.heap.size + 1 + 1 + 1, 0, none⟩) (by show w.heap.size ≤ w.heap.size + 1 + 1 + 1; omega) (.bool true)).grown (grownBy_putObj' _ Wa.heap.size (.deferred none)) (by have := hB.size; simpa using this) (fun k he => by injection he with he; omega)
    have hR2 := Kd.R_grown (Kd.R_far (p := ⟨w.heap.size + 1 + 1 + 1, 0, none⟩) (Kd.R_far (p := ⟨w.heap.size + 1 + 1, 0, none⟩) HR6.out (fun k hk => by have := hk.1; show k ≠ w.heap.size + 1 + 1; omega) (.slice A1 (Pl.items b c).length c1)) (fun k hk => by have := hk.1; show k ≠ w.heap.size + 1 + 1 + 1; omega) (.bool true)) (grownBy_putObj' _ Wa.heap.size (.deferred none)) (fun k hk he => by
      injection he with he
      rcases hk.2 with h | h
      · exact hne k (.inl h) he
      · exact hne k (.inr h) he)
    refine ⟨.tuple #[.slice A1 (Pl.items b c).length c1, .bool true], ?_, _, rfl, Kd.R_mono (Kd.R_lower hR2 (by omega)) (fun k hk => by have := hk.1; omega), hbW⟩
    simp [results, Try.results20, go_sem, er, ek]
  case round =>
    intro l G pre x W hl1 hl2 hG hI hG2 hH hP
    dsimp only [ItemX.encs]
    gi_wp2
    refine ⟨Moves.of_below (below_alloc (Below.refl _ _) _), fun W2 _ o2 ho2 _ => ?_⟩
    have hg12 : (W.alloc (.cells #[.bool x.it.1, .slice x.A1 x.it.2.1.length x.c1, .slice x.A2 x.it.2.2.1.length x.c2, .int .i64 x.it.2.2.2.1, .int .i64 x.it.2.2.2.2] 36)).grownBy W2 (some l) := by rw [ho2]; exact grownBy_putObj' _ _ _
    clear ho2
    have hs12 : W.heap.size + 1 ≤ W2.heap.size := by have := hg12.size; simpa using this
    have KX := (Blk.new W #[.bool x.it.1, .slice x.A1 x.it.2.1.length x.c1, .slice x.A2 x.it.2.2.1.length x.c2, .int .i64 x.it.2.2.2.1, .int .i64 x.it.2.2.2.2] 36).grown hg12 (by simp; omega)
    have hmv := hI.bel
    obtain ⟨v1, ho, hv1G, hr⟩ := hI.o
    have ko2 := (ho.alloc (.cells #[.bool x.it.1, .slice x.A1 x.it.2.1.length x.c1, .slice x.A2 x.it.2.2.1.length x.c2, .int .i64 x.it.2.2.2.1, .int .i64 x.it.2.2.2.2] 36)).grown hg12 (by simp; omega)
    have kb2 : Blk W2 w.heap.size #[.slice A b.length cc] 22 := ((⟨(hmv.block _ (by omega) (by omega)).trans J0.out⟩ : Blk W w.heap.size _ _).alloc _).grown hg12 (by simp; omega)
    have hr2 := Kd.R_grown (Kd.R_below hr (below_alloc (Below.refl _ _) (.cells #[.bool x.it.1, .slice x.A1 x.it.2.1.length x.c1, .slice x.A2 x.it.2.2.1.length x.c2, .int .i64 x.it.2.2.2.1, .int .i64 x.it.2.2.2.2] 36))) hg12 (fun k hk he => by
      injection he with he
      subst he
      rcases hk.2 with h | h
      · exact (hG _ h).2.2.1 rfl
      · exact (hP _ h).1 rfl)
    obtain ⟨⟨restL, hL⟩, hx1, hx2⟩ := hG2
    have hO1 := ownB_ok (ok' := fun k => ItemHand x k) (Kd.R_grown1 (Kd.R_below hx1 (below_alloc (Below.refl _ _) (.cells #[.bool x.it.1, .slice x.A1 x.it.2.1.length x.c1, .slice x.A2 x.it.2.2.1.length x.c2, .int .i64 x.it.2.2.2.1, .int .i64 x.it.2.2.2.2] 36))) rfl hg12 (fun he => (hH l (.inl he)).2.1 rfl)) (fun k hk => .inl hk.symm)
    have hO2 := ownB_ok (ok' := fun k => ItemHand x k) (Kd.R_grown1 (Kd.R_below hx2 (below_alloc (Below.refl _ _) (.cells #[.bool x.it.1, .slice x.A1 x.it.2.1.length x.c1, .slice x.A2 x.it.2.2.1.length x.c2, .int .i64 x.it.2.2.2.1, .int .i64 x.it.2.2.2.2] 36))) rfl hg12 (fun he => (hH l (.inr he)).2.1 rfl)) (fun k hk => .inr hk.symm)
    have hM : kItem.M W2 Wa.heap.size (fun k => ItemHand x k) x.it [.bool x.it.1, .slice x.A1 x.it.2.1.length x.c1, .slice x.A2 x.it.2.2.1.length x.c2, .int .i64 x.it.2.2.2.1, .int .i64 x.it.2.2.2.2] := item_M hO1 hO2
    have hhw : ∀ k, ItemHand x k → Wa.heap.size ≤ k := fun k hk => by
      rcases hk with hk | hk
      · exact hx1.1 k hk.symm
      · exact hx2.1 k hk.symm
    have hlen : pre.length + 1 ≤ b.length + 1 := by
      have h1 := congrArg List.length hL
      have h2 := Pl.items_len b c
      simp at h1
      omega
    have hlm : (pre.map ItemX.it).length = pre.length := by simp
    obtain ⟨A1, c1, hv1⟩ := Kd.R_slice hr2
    subst hv1
    simp only [hlm] at ko2 hr2 hv1G hr
    have hgt : decide ((b.length : Int) + 1 < (pre.length : Int) + 1) = false := by simp; omega
    have hw1 : IntKind.i64.wrap ((b.length : Int) + 1) = (b.length : Int) + 1 := IntWalk.i64_in _ (by omega)
    have hr3 : kItem.R 36 W2 Wa.heap.size (fun k => Wa.heap.size ≤ k ∧ (G k ∨ (∃ z ∈ pre ++ [x], ItemHand z k) ∨ W2.heap.size ≤ k)) (.slice A1 pre.length c1) (pre.map ItemX.it) := Kd.R_mono hr2 (fun k hk => ⟨hk.1, hk.2.elim .inl (fun ⟨z, hz, h⟩ => .inr (.inl ⟨z, List.mem_append.2 (.inl hz), h⟩))⟩)
    have hvlow : ∀ k, (Value.slice A1 pre.length c1).ownBlock = some k → Wa.heap.size ≤ k := fun k hk => (hr3.1 k hk).1
    have hQ : ∀ k, ItemHand x k → (Wa.heap.size ≤ k ∧ (G k ∨ (∃ z ∈ pre ++ [x], ItemHand z k) ∨ W2.heap.size ≤ k)) ∧ some k ≠ (Value.slice A1 pre.length c1).ownBlock := fun k hk => ⟨⟨hhw k hk, .inr (.inl ⟨x, by simp, hk⟩)⟩, fun he => (hH k hk).1 (hv1G k he.symm)⟩
    have hMw : ∀ k, G k → k < W2.heap.size := fun k hk => by have := (hG k hk).1; omega
    have hmv2 : Moves (fun k => k = w.heap.size + 4) Wa W2 := (hmv.trans (Moves.of_below (G := fun _ => False) (below_alloc (Below.refl _ _) _)) (fun _ _ h => h.elim)).trans (Moves.grown hg12 (G := fun k => k = l) (fun k he => by injection he with he; exact he.symm)) (fun k hk h => by
      have h' : k = l := h
      omega)
    obtain ⟨c0, c0f⟩ := kb2.cell
    obtain ⟨c4, c4f⟩ := ko2.cell
    obtain ⟨cx, cxf⟩ := KX.cell
    have hne4 : some (w.heap.size + 4) ≠ (Value.slice A1 pre.length c1).ownBlock := fun he => by
      have := hvlow _ he.symm
      omega
    have hne0 : some w.heap.size ≠ (Value.slice A1 pre.length c1).ownBlock := fun he => by
      have := hvlow _ he.symm
      omega
    have HHW := Lib.hid hhw
    have HI := Lib.hid hI
    have HMV2 := Lib.hid hmv2
    clear hI hmv hmv2 hr hr2 hO1 hO2 hx1 hx2 hL hhw
    gi_wp2_with (gi_at_builtin; refine appendIn kItem (W := W2) Wa.heap.size rfl (.tmp 16) (.tmp 18) 29 36 (.agg #[.bool false, .slice none 0 0, .slice none 0 0, .int .i64 0, .int .i64 0]) 72 rfl Try.underlying29 infoItem5 rfl (by decide) (by omega) _ (pre.map ItemX.it) x.it [.bool x.it.1, .slice x.A1 x.it.2.1.length x.c1, .slice x.A2 x.it.2.2.1.length x.c2, .int .i64 x.it.2.2.2.1, .int .i64 x.it.2.2.2.2] (fun k => Wa.heap.size ≤ k ∧ (G k ∨ (∃ z ∈ pre ++ [x], ItemHand z k) ∨ W2.heap.size ≤ k)) (fun k => ItemHand x k) rfl rfl hM ?aQ ?aF hr3 ?aS ?aL ?_; (case aQ => exact hQ); (case aF => exact fun j hj => ⟨by omega, .inr (.inr hj)⟩); (case aS => omega); (case aL => simp; omega); intro v9 w9 hr9 hg9 hat9; obtain ⟨A9, c9, hv9⟩ := Kd.R_slice hr9; rw [show (pre.map ItemX.it ++ [x.it]).length = pre.length + 1 by simp] at hv9; subst hv9; have ko9 := (ko2.grown hg9 hne4); obtain ⟨c9', c9f⟩ := ko9.cell; obtain ⟨c0', c0f'⟩ := (kb2.grown hg9 hne0).cell; have hs29 := hg9.size)
    have hs9 : (w9.setCell ⟨w.heap.size + 4, 0, none⟩ (.slice A9 (pre.length + 1) c9)).heap.size = w9.heap.size := by simp
    have hG9 : Grows G (fun k => G k ∨ (W.heap.size ≤ k ∧ k < w9.heap.size)) W (w9.setCell ⟨w.heap.size + 4, 0, none⟩ (.slice A9 (pre.length + 1) c9)) := fun k hk => by
      rw [hs9]
      rcases hk with h | h
      · exact ⟨by have := hMw k h; omega, .inl h⟩
      · exact ⟨h.2, .inr h.1⟩
    have hr10 := Kd.R_far (p := ⟨w.heap.size + 4, 0, none⟩) hr9 (fun k hk => by have := hk.1; show k ≠ w.heap.size + 4; omega) (.slice A9 (pre.length + 1) c9)
    have hM9 : Moves G W2 (w9.setCell ⟨w.heap.size + 4, 0, none⟩ (.slice A9 (pre.length + 1) c9)) := (Moves.grown hg9 (fun k he => hv1G k he)).trans (Moves.setCell w9 ⟨w.heap.size + 4, 0, none⟩ _ (G := G) HI.out.g) (fun _ _ h => h)
    have hM10 : Moves (fun k => k = w.heap.size + 4) Wa (w9.setCell ⟨w.heap.size + 4, 0, none⟩ (.slice A9 (pre.length + 1) c9)) := (HMV2.out.trans (Moves.grown hg9 (G := fun k => Wa.heap.size ≤ k) (fun k he => hvlow k he)) (fun k hk h => by
      have h' : Wa.heap.size ≤ k := h
      omega)).trans (Moves.setCell w9 ⟨w.heap.size + 4, 0, none⟩ _ (G := fun k => k = w.heap.size + 4) rfl) (fun _ _ h => h)
    refine ⟨fun k => G k ∨ (W.heap.size ≤ k ∧ k < w9.heap.size), hM9, hG9, hM10, .inl HI.out.g, ⟨_, ko9.set (cs' := #[.slice A9 (pre.length + 1) c9]) 0 _ rfl, fun k hk => ?_, ?_⟩⟩
    · have hlt := Kd.N_lt (Kd.R_N hr9) k hk
      rcases hat9 with h | ⟨b', h, h'⟩
      · exact .inl (hv1G k (h.symm.trans hk))
      · have h2 := hk.symm.trans h
        injection h2 with h2
        exact .inr ⟨by omega, hlt⟩
    · rw [List.map_append, List.map_cons, List.map_nil]
      refine Kd.R_mono (Kd.R_bound hr10) (fun k hk => ⟨hk.1.1, ?_⟩)
      have hlt := hk.2.2.1
      rw [hs9] at hlt
      rcases hk.1.2 with h | h | h
      · exact .inl (.inl h)
      · exact .inr h
      · exact .inl (.inr ⟨by omega, hlt⟩)
end Go.Proofs.Ytchbfeejpdfmhaa
/-! creellaw11.few, plain; feed.Fails. -/
set_option linter.unusedSimpArgs false
set_option linter.unusedVariables false
namespace Go.Proofs.Ytchbfeejpdfmhaa
open Go.RowKit Go.Shelf Go.Proofs.YtchbfeejpdfmhaaW.PrintWords Go.Proofs.YtchbfeejpdfmhaaW.PrintLast Go.Proofs.YtchbfeejpdfmhaaW.PrintMore
attribute [local go_sem] Oper.semAt_some max2_int min2_int max_two min_two

theorem few11_any (v : Value) (l : List UInt8) (w : World) (hv : Rd kb w v l) : Calls Try.prog 21 #[v] w fun e w' => ∃ v', e = .returned v' ∧ Rd kb w v' (l.take 1000) ∧ w = w' := by
  obtain ⟨A, c, rfl, hc, hF⟩ := hv
  obtain ⟨hcut, hV⟩ := byte_to hF hc (min l.length 1000) (by omega)
  have hm := Kd.F_max hF
  have HV := Lib.hid hV
  have e1 : l.take (min l.length 1000) = l.take 1000 := by
    rcases Nat.le_total l.length 1000 with h | h
    · rw [Nat.min_eq_left h, List.take_of_length_le (Nat.le_refl _), List.take_of_length_le h]
    · rw [Nat.min_eq_right h]
  have HE := Lib.hid e1
  clear hV hF e1
  by_cases h : l.length ≤ 1000
  · replace hcut := hcut .i64 (l.length : Int) (by omega)
    have h2 : ¬ (1000 : Int) < (l.length : Int) := by omega
    go_enter Try.func21, Try.ntmps21
    go_wp2_with fail
    go_ret
    exact ⟨_, rfl, by have := HV.out; rw [HE.out, Nat.min_eq_left h] at this; exact this, rfl⟩
  · replace hcut := hcut .i64 (1000 : Int) (by omega)
    have h2 : (1000 : Int) < (l.length : Int) := by omega
    go_enter Try.func21, Try.ntmps21
    go_wp2_with fail
    go_ret
    exact ⟨_, rfl, by have := HV.out; rw [HE.out] at this; rw [Nat.min_eq_right (by omega)] at this ⊢; exact this, rfl⟩

namespace Pl
/-- edges a line, by labels that are words -/
def plainC (skip : Bool) : Cfg := ⟨1, false, skip, false, false, false, 2, 2, 1⟩
/-- what is wrong first -/
def fails (b : List UInt8) (c : Cfg) : Int × Int :=
  if right c then (match (items b c).find? (fun x => !goodT x) with
    | none => (0, 0)
    | some x => (x.2.2.2.2, x.2.2.2.1)) else (0, 1)
end Pl
theorem plain11_any (s : Bool) (w : World) : Calls Try.prog 19 #[.bool s] w fun e w' => e = .returned (cfgV (Pl.plainC s)) ∧ Below w.heap.size w w' := by
  go_enter Try.func19, Try.ntmps19
  go_wp2_with fail
  refine bodyPost_ret (v := cfgV (Pl.plainC s)) (by simp [results, Try.results19, Try.f19, go_sem, loadCells, Pl.plainC]) rfl ⟨rfl, below_alloc (Below.refl _ _) _⟩

theorem find_first {pre : List ItemX} {x : ItemX} {rest L : List Pl.ItT} (h : (pre ++ [x]).map ItemX.it ++ rest = L) (hp : ∀ y ∈ pre, Pl.goodT y.it = true) (hx : Pl.goodT x.it = false) : L.find? (fun x => !Pl.goodT x) = some x.it := by
  subst h
  have h1 : (pre.map ItemX.it).find? (fun x => !Pl.goodT x) = none := by
    rw [List.find?_eq_none]
    intro y hy
    obtain ⟨z, hz, rfl⟩ := List.mem_map.1 hy
    simp [hp z hz]
  rw [List.map_append, List.append_assoc, List.find?_append, h1]
  simp [hx]

/-- Between two rounds of Fails. -/
structure FI (s1 s2 : Nat) (w1 : World) (G : Nat → Prop) (pre : List ItemX) (W : World) : Prop where
  bel : Moves (fun _ => False) w1 W
  g1 : G s1
  g2 : G s2
  p : ∀ x ∈ pre, Pl.goodT x.it = true
structure FX (s1 s2 : Nat) (w1 : World) (co : Code) (G : Nat → Prop) (pre : List ItemX) (W : World) : Prop where
  bel : Moves (fun k => k = s1 ∨ k = s2) w1 W
  co : co = .ret
  p : ∃ pre1 x, pre = pre1 ++ [x] ∧ (∀ y ∈ pre1, Pl.goodT y.it = true) ∧ Pl.goodT x.it = false ∧ Blk W s1 #[.int .i64 x.it.2.2.2.2] 3 ∧ Blk W s2 #[.int .i64 x.it.2.2.2.1] 34
theorem fi_stable {s1 s2 : Nat} {w1 : World} (h1 : s1 < w1.heap.size) (h2 : s2 < w1.heap.size) : Stable ItemHand w1.heap.size (FI s1 s2 w1) := by
  rintro G pre A B ⟨a1, a2, a3, a4⟩ hst
  have := a1.size
  exact ⟨⟨hst.os.trans a1.os, hst.tape.trans a1.tape, hst.output.trans a1.output, Nat.le_trans a1.size hst.size, fun k hk hn => (hst.block k (by omega) (.inl hk)).trans (a1.block k hk hn)⟩, a2, a3, a4⟩
theorem fx_stable {s1 s2 : Nat} {w1 : World} (h1 : s1 < w1.heap.size) (h2 : s2 < w1.heap.size) (co : Code) : Stable ItemHand w1.heap.size (FX s1 s2 w1 co) := by
  rintro G pre A B ⟨a1, a2, ⟨pre1, x, b1, b2, b3, b4, b5⟩⟩ hst
  have := a1.size
  exact ⟨⟨hst.os.trans a1.os, hst.tape.trans a1.tape, hst.output.trans a1.output, Nat.le_trans a1.size hst.size, fun k hk hn => (hst.block k (by omega) (.inl hk)).trans (a1.block k hk hn)⟩, a2, ⟨pre1, x, b1, b2, b3, ⟨(hst.block _ (by omega) (.inl h1)).trans b4.out⟩, ⟨(hst.block _ (by omega) (.inl h2)).trans b5.out⟩⟩⟩

set_option maxRecDepth 100000 in
set_option maxHeartbeats 4000000 in
theorem fails_any (v : Value) (b : List UInt8) (c : Pl.Cfg) (w : World) (hv : Rd kb w v b) (hl : b.length ≤ 1048576) :
    Calls Try.prog 23 #[v, cfgV c] w fun e w' => e = .returned (.tuple #[.int .i64 (Pl.fails b c).1, .int .i64 (Pl.fails b c).2]) ∧ Below w.heap.size w w' := by
  have HR := Lib.hid hv
  obtain ⟨A, cc, hvA⟩ := Kd.V_slice hv
  subst hvA
  clear hv
  refine (callsIn_wide (n := 9)).1 ?_
  refine callsIn_of_wp_marks Try.func23 rfl trivial ?_ rfl
  simp only [Try.ntmps23, List.size_toArray, List.length_cons, List.length_nil, Nat.reduceAdd, Nat.reduceSub, Array.replicate_succ, Array.replicate_zero, List.push_toArray, List.append_toArray, List.nil_append, List.cons_append]
  gi_wp2
  refine ⟨trivial, callsIn_at fun W1 hW1 => ?_⟩
  have hb1 : Below w.heap.size w W1 := by rw [← hW1]; exact below_alloc (below_alloc (below_alloc (Below.refl _ _) _) _) _
  have K0 := ((Blk.new w (cfgC c) 40).alloc (.cells #[.int .i64 0] 3)).alloc (.cells #[.int .i64 0] 34)
  have K1 := (Blk.new (w.alloc (.cells (cfgC c) 40)) #[.int .i64 0] 3).alloc (.cells #[.int .i64 0] 34)
  have K2 := Blk.new ((w.alloc (.cells (cfgC c) 40)).alloc (.cells #[.int .i64 0] 3)) #[.int .i64 0] 34
  rw [hW1] at K0 K1 K2
  simp only [World.size_alloc] at K1 K2
  clear hW1
  refine (callsIn_wide.2 (right_any c _)).mono ?_
  rintro e W2 ⟨rfl, hb2⟩
  have J0 := K0.belowW hb2
  have J1 := K1.belowW hb2
  have J2 := K2.belowW hb2
  have hbW2 := bthen hb1 hb2
  clear K0 K1 K2 hb1 hb2
  rcases hr : Pl.right c with _ | _
  · have HF := Lib.hid (show Pl.fails b c = (0, 1) by unfold Pl.fails; rw [hr]; rfl)
    obtain ⟨j1, j1f⟩ := J1.cell
    obtain ⟨j2, j2f⟩ := J2.cell
    clear hr
    gi_wp2
    have kr := (J1.set (cs' := #[.int .i64 0]) 0 (.int .i64 0) rfl).far (p := ⟨w.heap.size + 1 + 1, 0, none⟩) (by show w.heap.size + 1 ≠ w.heap.size + 1 + 1; omega) (.int .i64 1)
    have kk := (J2.far (p := ⟨w.heap.size + 1, 0, none⟩) (by show w.heap.size + 1 + 1 ≠ w.heap.size + 1; omega) (.int .i64 0)).set (cs' := #[.int .i64 1]) 0 (.int .i64 1) rfl
    have er := kr.cell.1 0
    have ek := kk.cell.1 0
    refine ⟨.tuple #[.int .i64 0, .int .i64 1], ?_, by rw [HF.out], (hbW2.setCell (p := ⟨w.heap.size + 1, 0, none⟩) (by show w.heap.size ≤ w.heap.size + 1; omega) _).setCell (p := ⟨w.heap.size + 1 + 1, 0, none⟩) (by show w.heap.size ≤ w.heap.size + 1 + 1; omega) _⟩
    simp [results, Try.results23, go_sem, er, ek]
  · have HF := Lib.hid (show Pl.fails b c = (match (Pl.items b c).find? (fun x => !Pl.goodT x) with
      | none => (0, 0)
      | some x => (x.2.2.2.2, x.2.2.2.1)) by unfold Pl.fails; rw [if_pos hr])
    clear hr
    have q0 := J0.cell.1 0
    have q1 := J0.cell.1 1
    have q2 := J0.cell.1 2
    have q3 := J0.cell.1 3
    have q4 := J0.cell.1 4
    have q5 := J0.cell.1 5
    have q6 := J0.cell.1 6
    have q7 := J0.cell.1 7
    have q8 := J0.cell.1 8
    have hsw := hbW2.size
    have hs2 : w.heap.size + 3 ≤ W2.heap.size := by have := J2.lt; omega
    gi_wp2
    refine ⟨trivial, (callsIn_wide.2 (fall_any _ b c W2 (Rd.below HR.out hbW2))).mono ?_⟩
    rintro e Wa ⟨rfl, hWa⟩
    clear q0 q1 q2 q3 q4 q5 q6 q7 q8
    have hba : Below W2.heap.size W2 Wa := by rw [hWa]; exact below_alloc (below_alloc (Below.refl _ _) _) _
    have hsa : Wa.heap.size = W2.heap.size + 2 := by rw [hWa]; simp
    have KBb : Blk Wa W2.heap.size #[.slice A b.length cc] 22 := by rw [hWa]; exact (Blk.new _ _ _).alloc _
    have KCc : Blk Wa (W2.heap.size + 1) (cfgC c) 40 := by
      rw [hWa]
      have := Blk.new (W2.alloc (.cells #[.slice A b.length cc] 22)) (cfgC c) 40
      simpa using this
    clear hWa
    have hsl : W2.heap.size + 2 ≤ Wa.heap.size := by omega
    clear hsa
    have hbA := bthen hbW2 hba
    have L1 := J1.belowW hba
    have L2 := J2.belowW hba
    gi_wp2
    obtain ⟨Cap, hCap⟩ : ∃ Cap : Nat → Prop, ∀ k, Cap k ↔ (k < w.heap.size ∨ k = W2.heap.size ∨ k = W2.heap.size + 1) := ⟨fun k => _, fun k => Iff.rfl⟩
    have hC : ∀ k, Cap k → k < Wa.heap.size := fun k hk => by have := (hCap k).1 hk; omega
    have hcl : Wa.cell? ⟨W2.heap.size, 0, none⟩ = some (.slice A b.length cc) := KBb.cell.1 0
    have hsq := fall1_seq2 (W2.heap.size + 1) W2.heap.size _ b c hl w Wa hbA Cap (fun k hk => (hCap k).2 (.inl hk)) hC ((hCap _).2 (.inr (.inl rfl))) ((hCap _).2 (.inr (.inr rfl))) hcl KCc HR.out
    have heg := enters_of Try.func35 (P := Try.prog) (f := 35) (by kernel_rfl) rfl
    clear hcl KBb KCc
    have hG0 : ∀ k, (fun k => k = w.heap.size + 1 ∨ k = w.heap.size + 2) k → k < Wa.heap.size ∧ ¬ Cap k := fun k hk => by
      have hk' : k = w.heap.size + 1 ∨ k = w.heap.size + 2 := hk
      exact ⟨by omega, fun h => by have := (hCap k).1 h; omega⟩
    refine range_seq2 rfl heg hsq (fun _ => rfl) hC (FI (w.heap.size + 1) (w.heap.size + 2) Wa) (FX (w.heap.size + 1) (w.heap.size + 2) Wa) (fi_stable (by omega) (by omega)) (fx_stable (by omega) (by omega)) (fun k => k = w.heap.size + 1 ∨ k = w.heap.size + 2) hG0 ⟨Moves.refl _ _, .inl rfl, .inr rfl, fun _ h => by cases h⟩ ?round ?done ?stop
    case done =>
      intro G xs W hS hI hne hD
      have hmv := hI.bel
      have hnone : (Pl.items b c).find? (fun x => !Pl.goodT x) = none := by
        rw [List.find?_eq_none]
        intro y hy
        rw [← hS] at hy
        obtain ⟨z, hz, rfl⟩ := List.mem_map.1 hy
        simp [hI.p z hz]
      have HF2 := Lib.hid (show Pl.fails b c = (0, 0) by rw [HF.out, hnone])
      have L1w : Blk W (w.heap.size + 1) #[.int .i64 0] 3 := ⟨(hmv.block _ (by omega) (fun h => h)).trans L1.out⟩
      have L2w : Blk W (w.heap.size + 1 + 1) #[.int .i64 0] 34 := ⟨(hmv.block _ (by omega) (fun h => h)).trans L2.out⟩
      obtain ⟨m1, m1f⟩ := L1w.cell
      obtain ⟨m2, m2f⟩ := L2w.cell
      have hsW := hmv.size
      have HMV := Lib.hid hmv
      clear hmv hnone
      gi_wp2
      have hD2 : ((W.setCell ⟨w.heap.size + 1, 0, none⟩ (.int .i64 0)).setCell ⟨w.heap.size + 1 + 1, 0, none⟩ (.int .i64 0)).heap[Wa.heap.size]? = some (.deferred (some [])) :=
        (Below.heap_setCell _ ⟨w.heap.size + 1 + 1, 0, none⟩ _ _ (by show Wa.heap.size ≠ w.heap.size + 1 + 1; omega)).trans ((Below.heap_setCell _ ⟨w.heap.size + 1, 0, none⟩ _ _ (by show Wa.heap.size ≠ w.heap.size + 1; omega)).trans hD)
      refine ⟨by simp, .inl ⟨_, _, rfl, run_takeDeferred hD2, ?_⟩⟩
      have kr := ((L1w.set (cs' := #[.int .i64 0]) 0 (.int .i64 0) rfl).far (p := ⟨w.heap.size + 1 + 1, 0, none⟩) (by show w.heap.size + 1 ≠ w.heap.size + 1 + 1; omega) (.int .i64 0)).grown (grownBy_putObj' _ Wa.heap.size (.deferred none)) (fun he => by injection he with he; omega)
      have kk := ((L2w.far (p := ⟨w.heap.size + 1, 0, none⟩) (by show w.heap.size + 1 + 1 ≠ w.heap.size + 1; omega) (.int .i64 0)).set (cs' := #[.int .i64 0]) 0 (.int .i64 0) rfl).grown (grownBy_putObj' _ Wa.heap.size (.deferred none)) (fun he => by injection he with he; omega)
      have er := kr.cell.1 0
      have ek := kk.cell.1 0
      have hB : Below w.heap.size w W := hbA.trans (HMV.out.below (by omega) (fun k hk => hk.elim))
      have hbW := ((hB.setCell (p := ⟨w.heap.size + 1, 0, none⟩) (by show w.heap.size ≤ w.heap.size + 1; omega) (.int .i64 0)).setCell (p := ⟨w.heap.size + 1 + 1, 0, none⟩) (by show w.heap.size ≤ w.heap.size + 1 + 1; omega) (.int .i64 0)).grown (grownBy_putObj' _ Wa.heap.size (.deferred none)) (by have := hB.size; simpa using this) (fun k he => by injection he with he; omega)
      refine ⟨.tuple #[.int .i64 0, .int .i64 0], ?_, by rw [HF2.out], hbW⟩
      simp [results, Try.results23, go_sem, er, ek]
    case stop =>
      rintro G co pre W hSp ⟨h1, rfl, pre1, x, rfl, h2, h3, h4, h5⟩ hne hD
      obtain ⟨rest, hrest⟩ := hSp
      have hfind := find_first hrest h2 h3
      have HF2 := Lib.hid (show Pl.fails b c = (x.it.2.2.2.2, x.it.2.2.2.1) by rw [HF.out, hfind])
      have hsW := h1.size
      clear hfind hrest
      gi_wp2
      refine ⟨by simp, .inl ⟨_, _, rfl, run_takeDeferred hD, ?_⟩⟩
      have kr := h4.grown (grownBy_putObj' _ Wa.heap.size (.deferred none)) (fun he => by injection he with he; omega)
      have kk := h5.grown (grownBy_putObj' _ Wa.heap.size (.deferred none)) (fun he => by injection he with he; omega)
      have er := kr.cell.1 0
      have ek := kk.cell.1 0
      have hB : Below w.heap.size w W := hbA.trans (h1.below (by omega) (fun k hk => by omega))
      have hbW := hB.grown (grownBy_putObj' _ Wa.heap.size (.deferred none)) hB.size (fun k he => by injection he with he; omega)
      refine ⟨.tuple #[.int .i64 x.it.2.2.2.2, .int .i64 x.it.2.2.2.1], ?_, by rw [HF2.out], hbW⟩
      simp [results, Try.results23, go_sem, er, ek]
    case round =>
      intro l G pre x W hl1 hl2 hG hI hG2 hH hP
      dsimp only [ItemX.encs]
      gi_wp2
      refine ⟨Moves.of_below (below_alloc (Below.refl _ _) _), fun W4 _ o2 ho2 _ => ?_⟩
      have hg12 : (W.alloc (.cells #[.bool x.it.1, .slice x.A1 x.it.2.1.length x.c1, .slice x.A2 x.it.2.2.1.length x.c2, .int .i64 x.it.2.2.2.1, .int .i64 x.it.2.2.2.2] 36)).grownBy W4 (some l) := by rw [ho2]; exact grownBy_putObj' _ _ _
      clear ho2
      have hs12 : W.heap.size + 1 ≤ W4.heap.size := by have := hg12.size; simpa using this
      have KX := (Blk.new W #[.bool x.it.1, .slice x.A1 x.it.2.1.length x.c1, .slice x.A2 x.it.2.2.1.length x.c2, .int .i64 x.it.2.2.2.1, .int .i64 x.it.2.2.2.2] 36).grown hg12 (by simp; omega)
      have hmv := hI.bel
      have L1w : Blk W4 (w.heap.size + 1) #[.int .i64 0] 3 := ((⟨(hmv.block _ (by omega) (fun h => h)).trans L1.out⟩ : Blk W _ _ _).alloc _).grown hg12 (by simp; omega)
      have L2w : Blk W4 (w.heap.size + 1 + 1) #[.int .i64 0] 34 := ((⟨(hmv.block _ (by omega) (fun h => h)).trans L2.out⟩ : Blk W _ _ _).alloc _).grown hg12 (by simp; omega)
      have hmv2 : Moves (fun _ => False) Wa W4 := (hmv.trans (Moves.of_below (G := fun _ => False) (below_alloc (Below.refl _ _) _)) (fun _ _ h => h.elim)).trans (Moves.grown hg12 (G := fun k => k = l) (fun k he => by injection he with he; exact he.symm)) (fun k hk h => by
        have h' : k = l := h
        omega)
      have hG9 : Grows G G W W4 := fun k hk => ⟨by have := (hG k hk).1; omega, .inl hk⟩
      have HM2 := Lib.hid hmv2
      have mixed : Try.prog.follows .mixedOrders = true := by kernel_rfl
      obtain ⟨m1, m1f⟩ := L1w.cell
      obtain ⟨m2, m2f⟩ := L2w.cell
      obtain ⟨kx1, kx2⟩ := KX.cell
      clear hmv hmv2
      rcases hgd : Pl.goodT x.it with _ | _
      · have hz : (x.it.2.2.2.1 != 0) = true := by
          unfold Pl.goodT at hgd
          simpa using hgd
        have HGD := Lib.hid hgd
        clear hgd
        gi_wp2
        have n1 : W.heap.size ≠ w.heap.size + 1 := by omega
        have n2 : W.heap.size ≠ w.heap.size + 1 + 1 := by omega
        have hM1 : Moves (fun k => k = w.heap.size + 1 ∨ k = w.heap.size + 2) W4 ((W4.setCell ⟨w.heap.size + 1, 0, none⟩ (.int .i64 x.it.2.2.2.2)).setCell ⟨w.heap.size + 1 + 1, 0, none⟩ (.int .i64 x.it.2.2.2.1)).drew :=
          ((Moves.setCell W4 ⟨w.heap.size + 1, 0, none⟩ _ (G := fun k => k = w.heap.size + 1 ∨ k = w.heap.size + 2) (.inl rfl)).trans (Moves.setCell _ ⟨w.heap.size + 1 + 1, 0, none⟩ _ (G := fun k => k = w.heap.size + 1 ∨ k = w.heap.size + 2) (.inr rfl)) (fun _ _ h => h)).trans (Moves.of_below (G := fun _ => False) (Below.refl _ _).drew) (fun _ _ h => h.elim)
        have hs1 := hM1.size
        have kr := ((L1w.set (cs' := #[.int .i64 x.it.2.2.2.2]) 0 (.int .i64 x.it.2.2.2.2) rfl).far (p := ⟨w.heap.size + 1 + 1, 0, none⟩) (by show w.heap.size + 1 ≠ w.heap.size + 1 + 1; omega) (.int .i64 x.it.2.2.2.1)).drew
        have kk := ((L2w.far (p := ⟨w.heap.size + 1, 0, none⟩) (by show w.heap.size + 1 + 1 ≠ w.heap.size + 1; omega) (.int .i64 x.it.2.2.2.2)).set (cs' := #[.int .i64 x.it.2.2.2.1]) 0 (.int .i64 x.it.2.2.2.1) rfl).drew
        have hend : RoundEnd2 (FI (w.heap.size + 1) (w.heap.size + 2) Wa) (FX (w.heap.size + 1) (w.heap.size + 2) Wa) G (pre ++ [x]) W W4 .ret { tmps := #[], defers := [] } ((W4.setCell ⟨w.heap.size + 1, 0, none⟩ (.int .i64 x.it.2.2.2.2)).setCell ⟨w.heap.size + 1 + 1, 0, none⟩ (.int .i64 x.it.2.2.2.1)).drew :=
          ⟨G, hM1.mono (fun k hk => hk.elim (fun h => h ▸ hI.g1) (fun h => h ▸ hI.g2)), fun k hk => ⟨by have := (hG9 k hk).1; omega, .inl hk⟩, ((HM2.out.mono (fun _ h => h.elim)).trans hM1 (fun _ _ h => h)), rfl, pre, x, rfl, hI.p, HGD.out, kr, kk⟩
        have HE := Lib.hid hend
        clear hend kr kk hM1
        gi_region_o
        all_goals gi_wp2
        all_goals exact HE.out
      · have hz : (x.it.2.2.2.1 != 0) = false := by
          unfold Pl.goodT at hgd
          simpa using hgd
        have HGD := Lib.hid hgd
        clear hgd
        gi_wp2
        refine ⟨G, Moves.refl _ _, hG9, HM2.out, hI.g1, hI.g2, fun y hy => ?_⟩
        rcases List.mem_append.1 hy with h | h
        · exact hI.p y h
        · rw [List.mem_singleton.1 h]; exact HGD.out
end Go.Proofs.Ytchbfeejpdfmhaa
