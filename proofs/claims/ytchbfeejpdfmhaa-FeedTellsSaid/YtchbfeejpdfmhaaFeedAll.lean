import Derived.Test.YtchbfeejpdfmhaaFeedLines
import Derived.Test.YtchbfeejpdfmhaaDumpAll
/-! feed.raw, feed.All: its iterator's contract. -/
set_option linter.unusedSimpArgs false
set_option linter.unusedVariables false
namespace Go.Proofs.Ytchbfeejpdfmhaa
open Go.RowKit Go.Shelf Go.Proofs.YtchbfeejpdfmhaaW.PrintWords Go.Proofs.YtchbfeejpdfmhaaW.PrintLast Go.Proofs.YtchbfeejpdfmhaaW.PrintMore
attribute [local go_sem] Oper.semAt_some

namespace Pl
def rawItems (b : List UInt8) (c : Cfg) : List ItT := if c.fmt = 3 then dump b else rawLines b c
def goodT (x : ItT) : Bool := x.2.2.2.1 == 0
def firstBad : List ItT → List ItT
  | [] => []
  | x :: r => if goodT x then x :: firstBad r else [x]
def cutBad (skip : Bool) (l : List ItT) : List ItT := if skip then l.filter goodT else firstBad l
/-- what a text tells -/
def items (b : List UInt8) (c : Cfg) : List ItT := if right c then cutBad c.skip (rawItems b c) else []
theorem firstBad_app {p : List ItT} (h : ∀ y ∈ p, goodT y = true) (r : List ItT) : firstBad (p ++ r) = p ++ firstBad r := by
  induction p with
  | nil => rfl
  | cons x p ih =>
    simp only [List.cons_append, firstBad]
    rw [if_pos (h x (by simp)), ih (fun y hy => h y (by simp [hy]))]
theorem filter_all {p : List ItT} (h : ∀ y ∈ p, goodT y = true) : p.filter goodT = p := List.filter_eq_self.2 h
end Pl

/-- What feed.raw answers: an iterator over all items, bad ones, too. -/
def RawSaid (b : List UInt8) (c : Pl.Cfg) (w0 w : World) (e : Ending) (w' : World) : Prop :=
  ∃ (gf : Nat) (lb : Array Value), e = .returned (.func (.func gf) #[] lb) ∧ Below w.heap.size w w' ∧ (∀ args W, (callFunc gf args).run Try.prog W = .ok (.enter gf args) W) ∧
    ∀ Cap : Nat → Prop, (∀ k, k < w0.heap.size → Cap k) → (∀ k, Cap k → k < w'.heap.size) → (∀ k, w.heap.size ≤ k → k < w'.heap.size → Cap k) →
      Seq2 Try.prog gf lb ItemX.encs (ItemGood (Pl.rawItems b c) w'.heap.size) ItemHand Cap (fun xs => xs.map ItemX.it = Pl.rawItems b c) (fun pre => ∃ rest, pre.map ItemX.it ++ rest = Pl.rawItems b c) w'

theorem flines_any (v : Value) (b : List UInt8) (c : Pl.Cfg) (w : World) (hv : Rd kb w v b) :
    Calls Try.prog 44 #[v, cfgV c] w fun e w' => e = .returned (.func (.func 51) #[] #[.pointer (some ⟨w.heap.size, 0, none⟩), .pointer (some ⟨w.heap.size + 1, 0, none⟩)]) ∧ w' = (w.alloc (.cells #[v] 22)).alloc (.cells (cfgC c) 40) := by
  obtain ⟨A, cc, rfl⟩ := Kd.V_slice hv
  clear hv
  go_enter Try.func44, Try.ntmps44
  go_wp2_with fail
  go_ret
  exact ⟨rfl, rfl⟩
theorem dall_any (v : Value) (b : List UInt8) (w : World) (hv : Rd kb w v b) :
    Calls Try.prog 43 #[v] w fun e w' => e = .returned (.func (.func 48) #[] #[.pointer (some ⟨w.heap.size, 0, none⟩)]) ∧ w' = w.alloc (.cells #[v] 22) := by
  obtain ⟨A, c, rfl⟩ := Kd.V_slice hv
  clear hv
  go_enter Try.func43, Try.ntmps43
  go_wp2_with fail
  go_ret
  exact ⟨rfl, rfl⟩
set_option maxHeartbeats 1000000 in
theorem raw_any (v : Value) (b : List UInt8) (c : Pl.Cfg) (w0 w : World) (hl : b.length ≤ 1048576) (hb0 : Below w0.heap.size w0 w) (hv : Rd kb w0 v b) : Calls Try.prog 36 #[v, cfgV c] w (RawSaid b c w0 w) := by
  have HV := Lib.hid hv
  obtain ⟨A, cc, hvA⟩ := Kd.V_slice hv
  subst hvA
  have f3 := u8_is c.fmt 3 3 rfl
  clear hv
  rcases h3 : (c.fmt == 3) with _ | _
  · rw [h3] at f3
    have HR := Lib.hid (show Pl.rawItems b c = Pl.rawLines b c by unfold Pl.rawItems; rw [if_neg (by simpa using h3)])
    clear h3
    go_enter Try.func36, Try.ntmps36
    go_wp2_with fail
    refine calls_at fun W1 hW1 => ?_
    have hb1 : Below w.heap.size w W1 := by rw [← hW1]; exact below_alloc (Below.refl _ _) _
    clear hW1
    refine (flines_any _ b c W1 (Rd.below HV.out (bthen hb0 hb1))).mono ?_
    rintro e W2 ⟨rfl, hW2⟩
    have hb2 : Below W1.heap.size W1 W2 := by rw [hW2]; exact below_alloc (below_alloc (Below.refl _ _) _) _
    have KB : Blk W2 W1.heap.size #[.slice A b.length cc] 22 := by rw [hW2]; exact (Blk.new _ _ _).alloc _
    have KC : Blk W2 (W1.heap.size + 1) (cfgC c) 40 := by
      rw [hW2]
      have := Blk.new (W1.alloc (.cells #[.slice A b.length cc] 22)) (cfgC c) 40
      simpa using this
    have hs2 : W2.heap.size = W1.heap.size + 2 := by rw [hW2]; simp
    have HS2 := Lib.hid hs2
    have HB2 := Lib.hid (bthen hb1 hb2)
    have HB1 := Lib.hid hb1
    clear hW2 hs2 hb2 hb1
    go_wp2_with fail
    go_ret
    refine ⟨_, _, rfl, HB2.out, enters_of Try.func51 (by kernel_rfl) rfl, fun Cap hC0 hCw hCn => ?_⟩
    rw [HR.out]
    have := HB1.out.size
    have := HS2.out
    exact lines1_seq2 W1.heap.size (W1.heap.size + 1) (.slice A b.length cc) b c hl w0 W2 (bthen hb0 HB2.out) Cap hC0 hCw (hCn _ (by omega) (by omega)) (hCn _ (by omega) (by omega)) (KB.cell.1 0) KC HV.out
  · rw [h3] at f3
    have HR := Lib.hid (show Pl.rawItems b c = Pl.dump b by unfold Pl.rawItems; rw [if_pos (by simpa using h3)])
    clear h3
    go_enter Try.func36, Try.ntmps36
    go_wp2_with fail
    refine calls_at fun W1 hW1 => ?_
    have hb1 : Below w.heap.size w W1 := by rw [← hW1]; exact below_alloc (Below.refl _ _) _
    clear hW1
    refine (dall_any _ b W1 (Rd.below HV.out (bthen hb0 hb1))).mono ?_
    rintro e W2 ⟨rfl, hW2⟩
    have hb2 : Below W1.heap.size W1 W2 := by rw [hW2]; exact below_alloc (Below.refl _ _) _
    have KB : Blk W2 W1.heap.size #[.slice A b.length cc] 22 := by rw [hW2]; exact Blk.new _ _ _
    have hs2 : W2.heap.size = W1.heap.size + 1 := by rw [hW2]; simp
    have HS2 := Lib.hid hs2
    have HB2 := Lib.hid (bthen hb1 hb2)
    have HB1 := Lib.hid hb1
    clear hW2 hs2 hb2 hb1
    go_wp2_with fail
    go_ret
    refine ⟨_, _, rfl, HB2.out, enters_of Try.func48 (by kernel_rfl) rfl, fun Cap hC0 hCw hCn => ?_⟩
    rw [HR.out]
    have := HB1.out.size
    have := HS2.out
    exact dump1_seq2 W1.heap.size (.slice A b.length cc) b hl w0 W2 (bthen hb0 HB2.out) Cap hC0 hCw (hCn _ (by omega) (by omega)) (KB.cell.1 0) HV.out

/-- Between two items. -/
structure AllI (J : (Nat → Prop) → List ItemX → World → Prop) (c : Pl.Cfg) (Cap Cap2 : Nat → Prop) (Wa : World) (G : Nat → Prop) (pre : List ItemX) (W : World) : Prop where
  j : ∃ Go, J Go (pre.filter fun x => Pl.goodT x.it) W ∧ (∀ k, Go k → G k) ∧ ∀ k, Go k → k < W.heap.size ∧ ¬ Cap k
  s : c.skip = false → ∀ x ∈ pre, Pl.goodT x.it = true
  k : Moves (fun k => ¬ Cap2 k) Wa W
theorem allI_stable {J : (Nat → Prop) → List ItemX → World → Prop} {c : Pl.Cfg} {Cap Cap2 : Nat → Prop} {Wa : World} {n0 : Nat} (hJ : Stable ItemHand n0 J) (hn : n0 ≤ Wa.heap.size) (hC : ∀ k, Cap2 k → k < Wa.heap.size) : Stable ItemHand Wa.heap.size (AllI J c Cap Cap2 Wa) := by
  rintro G pre A B ⟨⟨Go, h1, h3, h4⟩, h5, h6⟩ hs
  refine ⟨⟨Go, hJ _ _ _ _ h1 (hs.mono hn (fun k hk => ?_)), h3, fun k hk => ⟨Nat.lt_of_lt_of_le (h4 k hk).1 hs.size, (h4 k hk).2⟩⟩, h5, ?_⟩
  · rcases hk with hk | ⟨x, hx, hk⟩
    · exact .inl (h3 k hk)
    · exact .inr ⟨x, (List.mem_filter.1 hx).1, hk⟩
  · exact ⟨hs.os.trans h6.os, hs.tape.trans h6.tape, hs.output.trans h6.output, Nat.le_trans h6.size hs.size, fun k hk hn => (hs.block k (Nat.lt_of_lt_of_le hk h6.size) (.inl hk)).trans (h6.block k hk hn)⟩
/-- A round has left: by the caller's no, or behind what is bad. -/
def AllX (J Jx : (Nat → Prop) → List ItemX → World → Prop) (L : List Pl.ItT) (co : Code) (G : Nat → Prop) (pre : List ItemX) (W : World) : Prop :=
  co = .ret ∧ ∃ Go preO, (∀ k, Go k → G k) ∧ (∀ y ∈ preO, y ∈ pre) ∧ ((preO.map ItemX.it = L ∧ J Go preO W) ∨ ((∃ rest, preO.map ItemX.it ++ rest = L) ∧ Jx Go preO W))
theorem allX_stable {J Jx : (Nat → Prop) → List ItemX → World → Prop} {L : List Pl.ItT} {n0 n1 : Nat} (hJ : Stable ItemHand n0 J) (hJx : Stable ItemHand n0 Jx) (hn : n0 ≤ n1) (co : Code) : Stable ItemHand n1 (AllX J Jx L co) := by
  rintro G pre A B ⟨h0, Go, preO, h1, h2, h3⟩ hs
  have hs2 : Stays n0 (fun k => Go k ∨ ∃ x ∈ preO, ItemHand x k) A B := hs.mono hn (fun k hk => by
    rcases hk with hk | ⟨x, hx, hk⟩
    · exact .inl (h1 k hk)
    · exact .inr ⟨x, h2 x hx, hk⟩)
  refine ⟨h0, Go, preO, h1, h2, ?_⟩
  rcases h3 with ⟨h3, h4⟩ | ⟨h3, h4⟩
  · exact .inl ⟨h3, hJ _ _ _ _ h4 hs2⟩
  · exact .inr ⟨h3, hJx _ _ _ _ h4 hs2⟩
end Go.Proofs.Ytchbfeejpdfmhaa
/-! feed.All: its iterator's contract. -/
set_option linter.unusedSimpArgs false
set_option linter.unusedVariables false
namespace Go.Proofs.Ytchbfeejpdfmhaa
open Go.RowKit Go.Shelf Go.Proofs.YtchbfeejpdfmhaaW.PrintWords Go.Proofs.YtchbfeejpdfmhaaW.PrintLast Go.Proofs.YtchbfeejpdfmhaaW.PrintMore
attribute [local go_sem] Oper.semAt_some

theorem filter_map_it (l : List ItemX) : (l.filter fun x => Pl.goodT x.it).map ItemX.it = (l.map ItemX.it).filter Pl.goodT := by
  induction l with
  | nil => rfl
  | cons x r ih =>
    simp only [List.filter_cons, List.map_cons]
    split <;> simp [ih]

theorem cut_good {skip : Bool} {pre : List ItemX} {x : ItemX} {r L : List Pl.ItT} (hL : (pre ++ [x]).map ItemX.it ++ r = L) (hs : skip = false → ∀ y ∈ pre, Pl.goodT y.it = true) (hg : Pl.goodT x.it = true) :
    ∃ rest, ((pre.filter fun y => Pl.goodT y.it) ++ [x]).map ItemX.it ++ rest = Pl.cutBad skip L := by
  subst hL
  cases skip with
  | true =>
    refine ⟨r.filter Pl.goodT, ?_⟩
    simp [Pl.cutBad, filter_map_it, hg]
  | false =>
    refine ⟨Pl.firstBad r, ?_⟩
    have h1 : (pre.filter fun y => Pl.goodT y.it) = pre := List.filter_eq_self.2 (hs rfl)
    rw [h1]
    simp only [Pl.cutBad, Bool.false_eq_true, if_false]
    refine (Pl.firstBad_app (p := (pre ++ [x]).map ItemX.it) (fun y hy => ?_) r).symm
    obtain ⟨z, hz, rfl⟩ := List.mem_map.1 hy
    rcases List.mem_append.1 hz with h | h
    · exact hs rfl z h
    · rw [List.mem_singleton.1 h]; exact hg
theorem cut_bad {pre : List ItemX} {x : ItemX} {r L : List Pl.ItT} (hL : (pre ++ [x]).map ItemX.it ++ r = L) (hs : ∀ y ∈ pre, Pl.goodT y.it = true) (hg : Pl.goodT x.it = false) :
    ((pre.filter fun y => Pl.goodT y.it) ++ [x]).map ItemX.it = Pl.cutBad false L := by
  subst hL
  have h1 : (pre.filter fun y => Pl.goodT y.it) = pre := List.filter_eq_self.2 hs
  rw [h1]
  simp only [Pl.cutBad, Bool.false_eq_true, if_false]
  rw [List.map_append, List.append_assoc, Pl.firstBad_app (p := pre.map ItemX.it) (fun y hy => by
    obtain ⟨z, hz, rfl⟩ := List.mem_map.1 hy
    exact hs z hz)]
  simp [Pl.firstBad, hg]

set_option maxRecDepth 100000 in
set_option maxHeartbeats 4000000 in
theorem fall1_seq2 (Bc Bb : Nat) (v : Value) (b : List UInt8) (c : Pl.Cfg) (hl : b.length ≤ 1048576) (w0 w : World) (hb0 : Below w0.heap.size w0 w) (Cap : Nat → Prop) (hC0 : ∀ k, k < w0.heap.size → Cap k) (hCw : ∀ k, Cap k → k < w.heap.size) (hCb : Cap Bb) (hCc : Cap Bc)
    (hcell : w.cell? ⟨Bb, 0, none⟩ = some v) (hK : Blk w Bc (cfgC c) 40) (hv : Rd kb w0 v b) :
    Seq2 Try.prog 35 #[.pointer (some ⟨Bc, 0, none⟩), .pointer (some ⟨Bb, 0, none⟩)] ItemX.encs (ItemGood (Pl.items b c) w.heap.size) ItemHand Cap (fun xs => xs.map ItemX.it = Pl.items b c) (fun pre => ∃ rest, pre.map ItemX.it ++ rest = Pl.items b c) w := by
  obtain ⟨A0, c0, rfl, hc0, hF⟩ := hv
  intro l J Jx W G0 hW hG0 hJ hJx hY h0
  refine callsIn_of_wp_marks Try.func35 rfl trivial ?_ rfl
  simp only [Try.ntmps35, List.size_toArray, List.length_cons, List.length_nil, Nat.reduceAdd, Nat.reduceSub, Array.replicate_succ, Array.replicate_zero, List.push_toArray, List.append_toArray, List.nil_append, List.cons_append]
  have HV := Lib.hid (⟨A0, c0, rfl, hc0, hF⟩ : Rd kb w0 (.slice A0 b.length c0) b)
  clear hF
  have hWs := hW.size
  have hlb : Bb < W.heap.size := by have := hCw _ hCb; omega
  have hlc : Bc < W.heap.size := by have := hCw _ hCc; omega
  obtain ⟨W1, hW1⟩ : ∃ W1, W.alloc (.cells #[.func (.yield l) #[] #[]] 58) = W1 := ⟨_, rfl⟩
  have hb1 : Below W.heap.size W W1 := by rw [← hW1]; exact below_alloc (Below.refl _ _) _
  have hs1 : W1.heap.size = W.heap.size + 1 := by rw [← hW1]; simp
  have KY1 : Blk W1 W.heap.size #[.func (.yield l) #[] #[]] 58 := by rw [← hW1]; exact Blk.new _ _ _
  have KC1 := (hK.belowW hW).belowW hb1
  have hcell1 : W1.cell? ⟨Bb, 0, none⟩ = some (.slice A0 b.length c0) := (hb1.cell (p := ⟨Bb, 0, none⟩) hlb).trans ((hW.cell (p := ⟨Bb, 0, none⟩) (hCw _ hCb)).trans hcell)
  have q0 := KC1.cell.1 0
  have q1 := KC1.cell.1 1
  have q2 := KC1.cell.1 2
  have q3 := KC1.cell.1 3
  have q4 := KC1.cell.1 4
  have q5 := KC1.cell.1 5
  have q6 := KC1.cell.1 6
  have q7 := KC1.cell.1 7
  have q8 := KC1.cell.1 8
  subst hW1
  gi_wp2
  refine ⟨trivial, (callsIn_wide.2 (right_any c _)).mono ?_⟩
  rintro e W2 ⟨rfl, hb2⟩
  clear q0 q1 q2 q3 q4 q5 q6 q7 q8
  have hcell2 := (hb2.cell (p := ⟨Bb, 0, none⟩) (World.block_lt_of_cell? _ _ hcell1)).trans hcell1
  have KY2 := KY1.belowW hb2
  have KC2 := KC1.belowW hb2
  have hbW2 : Below W.heap.size W W2 := bthen hb1 hb2
  have hs2 := hb2.size
  have hJ2 : J G0 [] W2 := hJ _ _ _ _ h0 (Stays.of_below hbW2)
  have hs21 : W.heap.size + 1 ≤ W2.heap.size := by rw [← hs1]; exact hs2
  clear hb2 hs2 hs1 hcell1 KY1 KC1 hb1
  rcases hr : Pl.right c with _ | _
  · have hit : Pl.items b c = [] := by unfold Pl.items; rw [hr]; rfl
    have HIT := Lib.hid hit
    clear hit hr
    gi_wp2
    refine ⟨_, results_none rfl _ _ _, ⟨_, rfl⟩, .inl ⟨[], G0, by rw [HIT.out]; rfl, hJ2⟩⟩
  · have HIT := Lib.hid (show Pl.items b c = Pl.cutBad c.skip (Pl.rawItems b c) by unfold Pl.items; rw [if_pos hr])
    clear hr
    have q0 := KC2.cell.1 0
    have q1 := KC2.cell.1 1
    have q2 := KC2.cell.1 2
    have q3 := KC2.cell.1 3
    have q4 := KC2.cell.1 4
    have q5 := KC2.cell.1 5
    have q6 := KC2.cell.1 6
    have q7 := KC2.cell.1 7
    have q8 := KC2.cell.1 8
    gi_wp2
    refine ⟨trivial, (callsIn_wide.2 (raw_any _ b c w0 W2 hl (bthen hb0 (bthen hW hbW2)) HV.out)).mono ?_⟩
    rintro e Wa ⟨gf, lb, rfl, hba, heg, hseq⟩
    clear q0 q1 q2 q3 q4 q5 q6 q7 q8
    have hsa := hba.size
    have KYa := KY2.belowW hba
    have KCa := KC2.belowW hba
    have hbWa : Below W.heap.size W Wa := bthen hbW2 hba
    have hJa : J G0 [] Wa := hJ _ _ _ _ hJ2 (Stays.of_below hba)
    obtain ⟨C2, hC2d⟩ : ∃ C2 : Nat → Prop, ∀ k, C2 k ↔ (Cap k ∨ k = W.heap.size ∨ (W2.heap.size ≤ k ∧ k < Wa.heap.size)) := ⟨fun k => _, fun k => Iff.rfl⟩
    have hC2 : ∀ k, C2 k → k < Wa.heap.size := fun k hk => by
      rcases (hC2d k).1 hk with hk | rfl | hk
      · have := hCw k hk; omega
      · omega
      · exact hk.2
    have hsq := hseq C2 (fun k hk => (hC2d k).2 (.inl (hC0 k hk))) hC2 (fun k h1 h2 => (hC2d k).2 (.inr (.inr ⟨h1, h2⟩)))
    clear hseq hJ2 hba hbW2 KY2 KC2 hcell2
    gi_wp2
    refine range_seq2 rfl heg hsq (fun _ => rfl) hC2 (AllI J c Cap C2 Wa) (AllX J Jx (Pl.items b c)) (allI_stable hJ (by omega) hC2) (allX_stable hJ hJx (by omega)) G0
      (fun k hk => ⟨by have := (hG0 k hk).1; omega, fun h => by
        rcases (hC2d k).1 h with h | h | h
        · exact (hG0 k hk).2 h
        · have := (hG0 k hk).1; omega
        · have := (hG0 k hk).1; omega⟩)
      ⟨⟨G0, hJa, fun _ h => h, fun k hk => ⟨by have := (hG0 k hk).1; omega, (hG0 k hk).2⟩⟩, fun _ _ hx => (by cases hx), Moves.refl _ _⟩ ?round ?done ?stop
    case done =>
      intro G xs W3 hS hI hne hD
      obtain ⟨Go, h1, h3, h4⟩ := hI.j
      gi_wp2
      refine ⟨by simp, .inl ⟨_, _, rfl, run_takeDeferred hD, ?_⟩⟩
      refine ⟨_, results_none rfl _ _ _, ⟨_, rfl⟩, .inl ⟨_, Go, ?_, hJ _ _ _ _ h1 (Stays.of_put _ (by omega) (fun h => ?_))⟩⟩
      · rw [filter_map_it, hS, HIT.out]
        unfold Pl.cutBad
        cases hsk : c.skip with
        | true => rfl
        | false =>
          have hall : ∀ y ∈ Pl.rawItems b c, Pl.goodT y = true := fun y hy => by
            rw [← hS] at hy
            obtain ⟨x, hx, rfl⟩ := List.mem_map.1 hy
            exact hI.s hsk x hx
          have := Pl.firstBad_app hall []
          rw [List.append_nil] at this
          rw [Pl.filter_all hall]
          simp only [Bool.false_eq_true, if_false]
          rw [this]
          simp [Pl.firstBad]
      · rcases h with h | ⟨x, hx, h⟩
        · exact hne _ (.inl (h3 _ h)) rfl
        · exact hne _ (.inr ⟨x, (List.mem_filter.1 hx).1, h⟩) rfl
    case stop =>
      rintro G co pre W3 hSp ⟨rfl, Go, preO, h1, h2, h3⟩ hne hD
      gi_wp2
      refine ⟨by simp, .inl ⟨_, _, rfl, run_takeDeferred hD, ?_⟩⟩
      have hD2 : ∀ k, (Go k ∨ ∃ x ∈ preO, ItemHand x k) → k ≠ Wa.heap.size := fun k hk => by
        rcases hk with hk | ⟨x, hx, hk⟩
        · exact hne _ (.inl (h1 k hk))
        · exact hne _ (.inr ⟨x, h2 x hx, hk⟩)
      rcases h3 with ⟨h3, h4⟩ | ⟨h3, h4⟩
      · exact ⟨_, results_none rfl _ _ _, ⟨_, rfl⟩, .inl ⟨preO, Go, h3, hJ _ _ _ _ h4 (Stays.of_put _ (by omega) (fun h => hD2 _ h rfl))⟩⟩
      · exact ⟨_, results_none rfl _ _ _, ⟨_, rfl⟩, .inr ⟨preO, Go, h3, hJx _ _ _ _ h4 (Stays.of_put _ (by omega) (fun h => hD2 _ h rfl))⟩⟩
    case round =>
      intro l2 G pre x W3 hl1 hl2 hG hI hG2 hH hP
      dsimp only [ItemX.encs]
      gi_wp2
      refine ⟨Moves.of_below (below_alloc (Below.refl _ _) _), fun W4 _ hW4 _ => ?_⟩
      obtain ⟨o2, ho2⟩ := hW4
      have hg12 : (W3.alloc (.cells #[.bool x.it.1, .slice x.A1 x.it.2.1.length x.c1, .slice x.A2 x.it.2.2.1.length x.c2, .int .i64 x.it.2.2.2.1, .int .i64 x.it.2.2.2.2] 36)).grownBy W4 (some l2) := by rw [ho2]; exact grownBy_putObj' _ _ _
      have hs12 : W3.heap.size + 1 ≤ W4.heap.size := by have := hg12.size; simpa using this
      have KX := (Blk.new W3 #[.bool x.it.1, .slice x.A1 x.it.2.1.length x.c1, .slice x.A2 x.it.2.2.1.length x.c2, .int .i64 x.it.2.2.2.1, .int .i64 x.it.2.2.2.2] 36).grown hg12 (by simp; omega)
      have hKeep := hI.k
      have KY4 : Blk W4 W.heap.size #[.func (.yield l) #[] #[]] 58 := ((⟨(hKeep.block _ (by omega) (fun h => h ((hC2d _).2 (.inr (.inl rfl))))).trans KYa.out⟩ : Blk W3 W.heap.size _ _).alloc _).grown hg12 (by simp; omega)
      have KC4 : Blk W4 Bc (cfgC c) 40 := ((⟨(hKeep.block _ (by omega) (fun h => h ((hC2d _).2 (.inl hCc)))).trans KCa.out⟩ : Blk W3 Bc _ _).alloc _).grown hg12 (by simp; omega)
      have hst : Stays W.heap.size (fun k => G k ∨ ∃ z ∈ pre, ItemHand z k) W3 W4 := (Stays.of_below (below_alloc (Below.refl _ _) _)).trans (by rw [ho2]; exact Stays.of_put _ (by omega) (fun h => h.elim (fun h => (hG _ h).2.2.1 rfl) (fun h => (hP _ h).1 rfl)))
      have hmv : Moves (fun k => ¬ C2 k) W3 W4 := (Moves.of_below (below_alloc (Below.refl _ _) _)).trans (Moves.grown hg12 (fun k he hc => by cases he; have := hC2 _ hc; omega)) (fun _ _ h => h)
      clear ho2 hKeep
      obtain ⟨Go, h1, h3, h4⟩ := hI.j
      have hs34 : W3.heap.size ≤ W4.heap.size := by omega
      have hJ4 : J Go (pre.filter fun y => Pl.goodT y.it) W4 := hJ _ _ _ _ h1 (hst.mono (Nat.le_refl _) (fun k hk => by
        rcases hk with hk | ⟨z, hz, hk⟩
        · exact .inl (h3 k hk)
        · exact .inr ⟨z, (List.mem_filter.1 hz).1, hk⟩))
      have hM4 : Moves (fun k => ¬ C2 k) Wa W4 := hI.k.trans hmv (fun _ _ h => h)
      obtain ⟨⟨restL, hL⟩, ho1, ho2⟩ := hG2
      have hO1 : OwnB W4 w.heap.size (fun k => w.heap.size ≤ k) x.v1 x.it.2.1 := ownB_ok (Kd.R_lower (Kd.R_grown1 (Kd.R_below ho1 (below_alloc (Below.refl _ _) (.cells #[.bool x.it.1, .slice x.A1 x.it.2.1.length x.c1, .slice x.A2 x.it.2.2.1.length x.c2, .int .i64 x.it.2.2.2.1, .int .i64 x.it.2.2.2.2] 36))) rfl hg12 (fun he => (hH l2 (.inl he)).2.1 rfl)) (by omega)) (fun k hk => by have := ho1.1 k hk; omega)
      have hO2 : OwnB W4 w.heap.size (fun k => w.heap.size ≤ k) x.v2 x.it.2.2.1 := ownB_ok (Kd.R_lower (Kd.R_grown1 (Kd.R_below ho2 (below_alloc (Below.refl _ _) (.cells #[.bool x.it.1, .slice x.A1 x.it.2.1.length x.c1, .slice x.A2 x.it.2.2.1.length x.c2, .int .i64 x.it.2.2.2.1, .int .i64 x.it.2.2.2.2] 36))) rfl hg12 (fun he => (hH l2 (.inr he)).2.1 rfl)) (by omega)) (fun k hk => by have := ho2.1 k hk; omega)
      have HO := Lib.hid (⟨hO1, hO2⟩ : OwnB W4 w.heap.size (fun k => w.heap.size ≤ k) x.v1 x.it.2.1 ∧ OwnB W4 w.heap.size (fun k => w.heap.size ≤ k) x.v2 x.it.2.2.1)
      have HL := Lib.hid hL
      have HJ4 := Lib.hid hJ4
      have HM4 := Lib.hid hM4
      obtain ⟨kx1, kx2⟩ := KX.cell
      have ky := KY4.cell.1 0
      have q2 : W4.cell? ⟨Bc, 2, none⟩ = some (.bool c.skip) := KC4.cell.1 2
      have hX4 : W3.heap.size < W4.heap.size := by omega
      have hY4 : W.heap.size < W4.heap.size := by omega
      have hB4 : Bc < W4.heap.size := KC4.lt
      clear hO1 hO2 ho1 ho2 hL hJ4 hM4 hst hmv h1
      rcases hgd : Pl.goodT x.it with _ | _
      · have hz : (x.it.2.2.2.1 != 0) = true := by
          unfold Pl.goodT at hgd
          simpa using hgd
        have HGD := Lib.hid hgd
        clear hgd
        rcases hsk : c.skip with _ | _
        · rw [hsk] at q2
          have HSK := Lib.hid hsk
          have hcb := cut_bad HL.out (hI.s hsk) HGD.out
          have HCB := Lib.hid hcb
          clear hsk hcb
          obtain ⟨fn, tmps, assign, body, hy, hR⟩ := hY Go (pre.filter fun y => Pl.goodT y.it) x W4 HJ4.out (fun k hk => ⟨by have := (h4 k hk).1; omega, (h4 k hk).2⟩) ⟨by rw [HIT.out]; exact ⟨[], by rw [HCB.out, List.append_nil, HSK.out]⟩, HO.out.1, HO.out.2⟩ (fun k hk => ⟨fun h => (hH k hk).1 (h3 k h), by have := (hH k hk).2.2.2; omega⟩)
          dsimp only [ItemX.encs] at hy
          gi_wp2
          refine (yield_in hR).mono ?_
          rintro e W6 ⟨G6, hmv6, hgr6, (⟨rfl, hJ6⟩ | ⟨rfl, hJx6⟩)⟩
          · have HG6 := Lib.hid hgr6
            have HM6 := Lib.hid hmv6
            have HJ6 := Lib.hid hJ6
            clear hgr6 hmv6 hJ6 hR hy
            gi_wp2
            have hs6 := HM6.out.size
            have hG6 : Grows G G6 W3 W6 := fun k hk => ⟨(HG6.out k hk).1, (HG6.out k hk).2.elim (fun h => .inl (h3 k h)) (fun h => .inr (by omega))⟩
            have hm6 : Moves G W4 W6 := HM6.out.mono h3
            refine ⟨G6, hm6, hG6, rfl, G6, (pre.filter fun y => Pl.goodT y.it) ++ [x], fun _ h => h, fun y hy => ?_, .inl ⟨by rw [HCB.out, HIT.out, HSK.out], HJ6.out⟩⟩
            rcases List.mem_append.1 hy with h | h
            · exact List.mem_append.2 (.inl (List.mem_filter.1 h).1)
            · exact List.mem_append.2 (.inr h)
          · have HG6 := Lib.hid hgr6
            have HM6 := Lib.hid hmv6
            have HJ6 := Lib.hid hJx6
            clear hgr6 hmv6 hJx6 hR hy
            gi_wp2
            have hs6 := HM6.out.size
            have hG6 : Grows G G6 W3 W6 := fun k hk => ⟨(HG6.out k hk).1, (HG6.out k hk).2.elim (fun h => .inl (h3 k h)) (fun h => .inr (by omega))⟩
            have hm6 : Moves G W4 W6 := HM6.out.mono h3
            refine ⟨G6, hm6, hG6, rfl, G6, (pre.filter fun y => Pl.goodT y.it) ++ [x], fun _ h => h, fun y hy => ?_, .inr ⟨⟨[], by rw [HCB.out, HIT.out, HSK.out, List.append_nil]⟩, HJ6.out⟩⟩
            rcases List.mem_append.1 hy with h | h
            · exact List.mem_append.2 (.inl (List.mem_filter.1 h).1)
            · exact List.mem_append.2 (.inr h)
        · rw [hsk] at q2
          have HSK := Lib.hid hsk
          clear hsk
          gi_wp2
          refine ⟨G, Moves.refl _ _, fun k hk => ⟨by have := (hG k hk).1; omega, .inl hk⟩, ⟨⟨Go, ?_, h3, fun k hk => ⟨by have := (h4 k hk).1; omega, (h4 k hk).2⟩⟩, fun h => (by rw [HSK.out] at h; cases h), HM4.out⟩⟩
          rw [show ((pre ++ [x]).filter fun y => Pl.goodT y.it) = pre.filter fun y => Pl.goodT y.it by simp [HGD.out]]
          exact HJ4.out
      · have hz : (x.it.2.2.2.1 != 0) = false := by
          unfold Pl.goodT at hgd
          simpa using hgd
        have HGD := Lib.hid hgd
        have HCG := Lib.hid (cut_good HL.out hI.s hgd)
        clear hgd
        obtain ⟨fn, tmps, assign, body, hy, hR⟩ := hY Go (pre.filter fun y => Pl.goodT y.it) x W4 HJ4.out (fun k hk => ⟨by have := (h4 k hk).1; omega, (h4 k hk).2⟩) ⟨by rw [HIT.out]; exact HCG.out, HO.out.1, HO.out.2⟩ (fun k hk => ⟨fun h => (hH k hk).1 (h3 k h), by have := (hH k hk).2.2.2; omega⟩)
        dsimp only [ItemX.encs] at hy
        gi_wp2
        refine (yield_in hR).mono ?_
        rintro e W6 ⟨G6, hmv6, hgr6, (⟨rfl, hJ6⟩ | ⟨rfl, hJx6⟩)⟩
        · have HG6 := Lib.hid hgr6
          have HM6 := Lib.hid hmv6
          have HJ6 := Lib.hid hJ6
          clear hgr6 hmv6 hJ6 hR hy
          gi_wp2
          have hs6 := HM6.out.size
          have hG6 : Grows G G6 W3 W6 := fun k hk => ⟨(HG6.out k hk).1, (HG6.out k hk).2.elim (fun h => .inl (h3 k h)) (fun h => .inr (by omega))⟩
          have hm6 : Moves G W4 W6 := HM6.out.mono h3
          refine ⟨G6, hm6, hG6, ⟨⟨G6, ?_, fun _ h => h, fun k hk => ⟨(hG6 k hk).1, fun hc => ?_⟩⟩, fun h y hy => ?_, HM4.out.trans (hm6.mono fun k hk => (hG k hk).2.1) (fun _ _ h => h)⟩⟩
          · rw [show ((pre ++ [x]).filter fun y => Pl.goodT y.it) = (pre.filter fun y => Pl.goodT y.it) ++ [x] by simp [HGD.out]]
            exact HJ6.out
          · rcases (HG6.out k hk).2 with h | h
            · exact (h4 k h).2 hc
            · have := hCw k hc; omega
          · rcases List.mem_append.1 hy with h' | h'
            · exact hI.s h y h'
            · rw [List.mem_singleton.1 h']; exact HGD.out
        · have HG6 := Lib.hid hgr6
          have HM6 := Lib.hid hmv6
          have HJ6 := Lib.hid hJx6
          clear hgr6 hmv6 hJx6 hR hy
          gi_wp2
          have hs6 := HM6.out.size
          have hG6 : Grows G G6 W3 W6 := fun k hk => ⟨(HG6.out k hk).1, (HG6.out k hk).2.elim (fun h => .inl (h3 k h)) (fun h => .inr (by omega))⟩
          have hm6 : Moves G W4 W6 := HM6.out.mono h3
          refine ⟨G6, hm6, hG6, rfl, G6, (pre.filter fun y => Pl.goodT y.it) ++ [x], fun _ h => h, fun y hy => ?_, .inr ⟨by rw [HIT.out]; exact HCG.out, HJ6.out⟩⟩
          rcases List.mem_append.1 hy with h | h
          · exact List.mem_append.2 (.inl (List.mem_filter.1 h).1)
          · exact List.mem_append.2 (.inr h)
end Go.Proofs.Ytchbfeejpdfmhaa
