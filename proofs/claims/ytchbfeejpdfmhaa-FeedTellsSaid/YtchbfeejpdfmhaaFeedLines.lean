import Derived.Test.YtchbfeejpdfmhaaPlainFeed
/-! feed.lines: its iterator's contract. -/
set_option linter.unusedSimpArgs false
set_option linter.unusedVariables false
namespace Go.Proofs.Ytchbfeejpdfmhaa
open Go.RowKit Go.Shelf Go.Proofs.YtchbfeejpdfmhaaW.PrintWords Go.Proofs.YtchbfeejpdfmhaaW.PrintLast Go.Proofs.YtchbfeejpdfmhaaW.PrintMore
attribute [local go_sem] Oper.semAt_some

/-- Between two lines. -/
structure LinesI (J : (Nat → Prop) → List ItemX → World → Prop) (c : Pl.Cfg) (Cap Cap2 : Nat → Prop) (Wa : World) (G : Nat → Prop) (pre : List LineX) (W : World) : Prop where
  j : ∃ Go preI, J Go preI W ∧ preI.map ItemX.it = (pre.map LineX.line).flatMap (Pl.rawOf c) ∧ (∀ k, (Go k ∨ ∃ x ∈ preI, ItemHand x k) → G k) ∧ ∀ k, Go k → k < W.heap.size ∧ ¬ Cap k
  k : Moves (fun k => ¬ Cap2 k) Wa W
theorem linesI_stable {J : (Nat → Prop) → List ItemX → World → Prop} {c : Pl.Cfg} {Cap Cap2 : Nat → Prop} {Wa : World} {n0 : Nat} (hJ : Stable ItemHand n0 J) (hn : n0 ≤ Wa.heap.size) (hC : ∀ k, Cap2 k → k < Wa.heap.size) : Stable LineHand Wa.heap.size (LinesI J c Cap Cap2 Wa) := by
  rintro G pre A B ⟨⟨Go, preI, h1, h2, h3, h4⟩, h5⟩ hs
  refine ⟨⟨Go, preI, hJ _ _ _ _ h1 (hs.mono hn (fun k hk => .inl (h3 k hk))), h2, h3, fun k hk => ⟨Nat.lt_of_lt_of_le (h4 k hk).1 hs.size, (h4 k hk).2⟩⟩, ?_⟩
  exact ⟨hs.os.trans h5.os, hs.tape.trans h5.tape, hs.output.trans h5.output, Nat.le_trans h5.size hs.size, fun k hk hn => (hs.block k (Nat.lt_of_lt_of_le hk h5.size) (.inl hk)).trans (h5.block k hk hn)⟩
/-- A round has left. -/
def LinesX (Jx : (Nat → Prop) → List ItemX → World → Prop) (L : List Pl.ItT) (co : Code) (G : Nat → Prop) (_ : List LineX) (W : World) : Prop :=
  co = .ret ∧ ∃ Go preI, Jx Go preI W ∧ (∃ rest, preI.map ItemX.it ++ rest = L) ∧ ∀ k, (Go k ∨ ∃ x ∈ preI, ItemHand x k) → G k
theorem linesX_stable {Jx : (Nat → Prop) → List ItemX → World → Prop} {L : List Pl.ItT} {n0 n1 : Nat} (hJ : Stable ItemHand n0 Jx) (hn : n0 ≤ n1) (co : Code) : Stable LineHand n1 (LinesX Jx L co) := by
  rintro G pre A B ⟨h0, Go, preI, h1, h2, h3⟩ hs
  exact ⟨h0, Go, preI, hJ _ _ _ _ h1 (hs.mono hn (fun k hk => .inl (h3 k hk))), h2, h3⟩

/-- Between two items of a line. -/
structure EachI (J : (Nat → Prop) → List ItemX → World → Prop) (Cap G Go : Nat → Prop) (n1 : Nat) (L0 its : List Pl.ItT) (Wp : World) (j : Nat) (Gn : Nat → Prop) (preN : List ItemX) (wr : World) : Prop where
  jj : J Gn preN wr
  m : preN.map ItemX.it = L0 ++ its.take j
  g : ∀ k, Gn k → k < wr.heap.size ∧ ¬ Cap k ∧ (Go k ∨ Wp.heap.size ≤ k)
  h : ∀ y ∈ preN, ∀ k, ItemHand y k → (G k ∨ n1 ≤ k) ∧ k < wr.heap.size
  mv : Moves Go Wp wr
theorem EachI.cell {J : (Nat → Prop) → List ItemX → World → Prop} {Cap G Go : Nat → Prop} {n1 : Nat} {L0 its : List Pl.ItT} {Wp wr : World} {j : Nat} {Gn : Nat → Prop} {preN : List ItemX} (h : EachI J Cap G Go n1 L0 its Wp j Gn preN wr) {g o : Nat} {u : Value} (hn : ¬ Go g) (hc : Wp.cell? ⟨g, o, none⟩ = some u) : wr.cell? ⟨g, o, none⟩ = some u :=
  (World.cell?_of_block (h.mv.block g (World.block_lt_of_cell? _ _ hc) hn)).trans hc
theorem adj_pos (at_ : Int) (l : List UInt8) (num : Bool) (h : Pl.bare l = false) : 0 < (Pl.adj at_ l num).length := by
  unfold Pl.adj
  split
  · simp
  · rename_i hne
    split
    · simp
    · split
      · simp
      · rename_i h1
        rw [Pl.mates_len, Pl.labs_len]
        have : 0 < (Pl.words at_ l).length := List.length_pos_iff.2 hne
        omega
theorem adj_le (at_ : Int) (l : List UInt8) (num : Bool) : (Pl.adj at_ l num).length ≤ l.length + 1 := by
  have hw := Pl.words_len at_ l
  unfold Pl.adj
  split
  · simp
  · split
    · simp
    · split
      · simp
      · rw [Pl.mates_len, Pl.labs_len]
        omega
theorem items_nil {w : World} {base : Nat} (h : base ≤ w.heap.size) : OwnI (w.alloc (.cells #[] 36)) base (.slice (some ⟨w.heap.size, 0, none⟩) 0 0) [] :=
  ⟨fun k hk => by
    have : w.heap.size = k := by simpa [Value.ownBlock] using hk
    omega, [], World.ownsRow_lit (base := base) (e := 36) (size := kItem.sz) w #[] 0 h (by decide) rfl, rfl, fun j p hp => by simp at hp⟩

set_option maxRecDepth 100000 in
set_option maxHeartbeats 4000000 in
theorem lines1_seq2 (Bb Bc : Nat) (v : Value) (b : List UInt8) (c : Pl.Cfg) (hl : b.length ≤ 1048576) (w0 w : World) (hb0 : Below w0.heap.size w0 w) (Cap : Nat → Prop) (hC0 : ∀ k, k < w0.heap.size → Cap k) (hCw : ∀ k, Cap k → k < w.heap.size) (hCb : Cap Bb) (hCc : Cap Bc)
    (hcell : w.cell? ⟨Bb, 0, none⟩ = some v) (hK : Blk w Bc (cfgC c) 40) (hv : Rd kb w0 v b) :
    Seq2 Try.prog 51 #[.pointer (some ⟨Bb, 0, none⟩), .pointer (some ⟨Bc, 0, none⟩)] ItemX.encs (ItemGood (Pl.rawLines b c) w.heap.size) ItemHand Cap (fun xs => xs.map ItemX.it = Pl.rawLines b c) (fun pre => ∃ rest, pre.map ItemX.it ++ rest = Pl.rawLines b c) w := by
  obtain ⟨A0, c0, rfl, hc0, hF⟩ := hv
  intro l J Jx W G0 hW hG0 hJ hJx hY h0
  refine callsIn_of_wp_marks Try.func51 rfl trivial ?_ rfl
  simp only [Try.ntmps51, List.size_toArray, List.length_cons, List.length_nil, Nat.reduceAdd, Nat.reduceSub, Array.replicate_succ, Array.replicate_zero, List.push_toArray, List.append_toArray, List.nil_append, List.cons_append]
  have HV := Lib.hid (⟨A0, c0, rfl, hc0, hF⟩ : Rd kb w0 (.slice A0 b.length c0) b)
  clear hF
  have hWs := hW.size
  have hcellW : W.cell? ⟨Bb, 0, none⟩ = some (.slice A0 b.length c0) := (hW.cell (p := ⟨Bb, 0, none⟩) (hCw _ hCb)).trans hcell
  have hlb : Bb < W.heap.size := by have := hCw _ hCb; omega
  gi_wp2
  refine ⟨trivial, (callsIn_wide.2 (all_any _ b _ (Rd.below HV.out (bthen hb0 (bthen hW (below_alloc (Below.refl _ _) _)))))).mono ?_⟩
  rintro e Wa ⟨rfl, hWa⟩
  have hb1 : Below W.heap.size W Wa := by rw [hWa]; exact below_alloc (below_alloc (Below.refl _ _) _) _
  have hsz : Wa.heap.size = W.heap.size + 2 := by rw [hWa]; simp
  have KY : Blk Wa W.heap.size #[.func (.yield l) #[] #[]] 58 := by rw [hWa]; exact (Blk.new _ _ _).alloc _
  have KB : Blk Wa (W.heap.size + 1) #[.slice A0 b.length c0] 22 := by
    rw [hWa]
    have := Blk.new (W.alloc (.cells #[.func (.yield l) #[] #[]] 58)) #[.slice A0 b.length c0] 22
    simpa using this
  have KC : Blk Wa Bc (cfgC c) 40 := (hK.belowW hW).belowW hb1
  have hBc : Bc < W.heap.size := by have := hCw _ hCc; omega
  simp only [World.size_alloc]
  clear hWa hcell hcellW
  have hC2 : ∀ k, (Cap k ∨ k = W.heap.size ∨ k = W.heap.size + 1) → k < Wa.heap.size := by
    rintro k (hk | rfl | rfl)
    · have := hCw k hk; omega
    · omega
    · omega
  have hJ0 : J G0 [] Wa := hJ _ _ _ _ h0 (Stays.of_below hb1)
  gi_wp2
  refine range_seq2 (gf := 58) (lb := #[.pointer (some ⟨W.heap.size + 1, 0, none⟩)]) rfl (enters_of Try.func58 (by kernel_rfl) rfl)
    (all1_seq2 (W.heap.size + 1) (.slice A0 b.length c0) b (by omega) w0 Wa (bthen hb0 (bthen hW hb1)) (fun k => Cap k ∨ k = W.heap.size ∨ k = W.heap.size + 1) (fun k hk => .inl (hC0 k hk)) hC2 (.inr (.inr rfl)) (KB.cell.1 0) HV.out) (fun _ => rfl) hC2
    (LinesI J c Cap (fun k => Cap k ∨ k = W.heap.size ∨ k = W.heap.size + 1) Wa) (LinesX Jx (Pl.rawLines b c)) (linesI_stable hJ (by omega) hC2) (linesX_stable hJx (by omega)) G0
    (fun k hk => ⟨by have := (hG0 k hk).1; omega, fun h => by
      rcases h with h | h | h
      · exact (hG0 k hk).2 h
      · have := (hG0 k hk).1; omega
      · have := (hG0 k hk).1; omega⟩)
    ⟨⟨G0, [], hJ0, rfl, (fun k hk => by
      rcases hk with hk | ⟨_, hm, _⟩
      · exact hk
      · cases hm), fun k hk => ⟨by have := (hG0 k hk).1; omega, (hG0 k hk).2⟩⟩, Moves.refl _ _⟩ ?round ?done ?stop
  case done =>
    intro G xs W3 hS hI hne hD
    obtain ⟨Go, preI, h1, h2, h3, h4⟩ := hI.j
    have hr : preI.map ItemX.it = Pl.rawLines b c := by rw [h2, hS]; rfl
    gi_wp2
    refine ⟨by simp, .inl ⟨_, _, rfl, run_takeDeferred hD, ?_⟩⟩
    exact ⟨_, results_none rfl _ _ _, ⟨_, rfl⟩, .inl ⟨preI, Go, hr, hJ _ _ _ _ h1 (Stays.of_put _ (by omega) (fun h => hne _ (.inl (h3 _ h)) rfl))⟩⟩
  case stop =>
    rintro G co pre W3 hSp ⟨rfl, Go, preI, h1, h2, h3⟩ hne hD
    gi_wp2
    refine ⟨by simp, .inl ⟨_, _, rfl, run_takeDeferred hD, ?_⟩⟩
    exact ⟨_, results_none rfl _ _ _, ⟨_, rfl⟩, .inr ⟨preI, Go, h2, hJx _ _ _ _ h1 (Stays.of_put _ (by omega) (fun h => hne _ (.inl (h3 _ h)) rfl))⟩⟩
  case round =>
    intro l2 G pre x W1 hl1 hl2 hG hI hG2 hH hP
    dsimp only [LineX.encs]
    gi_wp2
    refine ⟨Moves.of_below (below_alloc (Below.refl _ _) _), fun W2 _ hW2 _ => ?_⟩
    obtain ⟨o2, ho2⟩ := hW2
    have hg12 : (W1.alloc (.cells #[.int .i64 x.at_, .slice x.A x.bs.length x.c] 26)).grownBy W2 (some l2) := by rw [ho2]; exact grownBy_putObj' _ _ _
    have hs12 : W1.heap.size + 1 ≤ W2.heap.size := by have := hg12.size; simpa using this
    have KX := (Blk.new W1 #[.int .i64 x.at_, .slice x.A x.bs.length x.c] 26).grown hg12 (by simp; omega)
    have hKeep := hI.k
    have KY2 : Blk W2 W.heap.size #[.func (.yield l) #[] #[]] 58 := ((⟨(hKeep.block _ (by omega) (by simp)).trans KY.out⟩ : Blk W1 W.heap.size _ _).alloc _).grown hg12 (by simp; omega)
    have KC2 : Blk W2 Bc (cfgC c) 40 := ((⟨(hKeep.block _ (by omega) (by simp [hCc])).trans KC.out⟩ : Blk W1 Bc _ _).alloc _).grown hg12 (by simp; omega)
    have hst12 : Stays W.heap.size G W1 W2 := (Stays.of_below (below_alloc (Below.refl _ _) _)).trans (by rw [ho2]; exact Stays.of_put _ (by omega) (fun h => (hG _ h).2.2.1 rfl))
    have hmv12 : Moves (fun k => ¬ (Cap k ∨ k = W.heap.size ∨ k = W.heap.size + 1)) W1 W2 := (Moves.of_below (below_alloc (Below.refl _ _) _)).trans (Moves.grown hg12 (fun k he hc => by cases he; have := hC2 _ hc; omega)) (fun _ _ h => h)
    clear ho2
    obtain ⟨hx1, ⟨restL, hx2⟩, hx3⟩ := hG2
    have hXR : Rd kb W2 (.slice x.A x.bs.length x.c) x.bs := by
      have h1 := Kd.R_grown1 (Kd.R_below hx3 (below_alloc (Below.refl _ _) (.cells #[.int .i64 x.at_, .slice x.A x.bs.length x.c] 26))) rfl hg12 (fun he => (hH l2 he).2.1 rfl)
      exact Own.rd (Kd.R_N (ownB_ok (ok' := fun k => Wa.heap.size ≤ k) h1 (fun k hk => Kd.N_base (Kd.R_N h1) k hk)))
    have hmem : x.line ∈ Pl.lines b := by rw [← hx2]; simp
    have hbd := Pl.lineIn b _ hmem
    have hbd' : 0 ≤ x.at_ ∧ x.at_ + (x.bs.length : Int) ≤ (b.length : Int) := hbd
    have HXR := Lib.hid hXR
    have HX2 := Lib.hid hx2
    have b0 := hbd'.1
    have b1 : x.at_ ≤ 4611686018427387904 := by omega
    have b2 : x.bs.length ≤ 1048576 := by omega
    have cx0 := KX.cell.1 0
    have cx1 := KX.cell.1 1
    clear hXR hx1 hx2 hx3 hmem hbd hbd' hKeep
    gi_wp2
    refine ⟨trivial, (CallsIn.inRound l2 (callsIn_wide.2 (bare_any _ x.at_ x.bs W2 HXR.out b0 b1 (by omega)))).mono ?_⟩
    rintro e W3 ⟨rfl, hb3⟩
    rcases hbar : Pl.bare x.bs with _ | _
    · have HB3 := Lib.hid hb3
      have KX3 := KX.belowW hb3
      have KY3 := KY2.belowW hb3
      have KC3 := KC2.belowW hb3
      have f1 := u8_is c.fmt 1 1 rfl
      have hs23 := hb3.size
      have cx0 := KX3.cell.1 0
      have cx1 := KX3.cell.1 1
      have q0 := KC3.cell.1 0
      have q1 := KC3.cell.1 1
      have hXR3 := Lib.hid (Rd.below HXR.out hb3)
      have hBc3 : Bc < W3.heap.size := KC3.lt
      have hXb3 : W1.heap.size < W3.heap.size := by omega
      have HBAR := Lib.hid hbar
      clear hb3 hbar
      have hbE : Below W3.heap.size W3 (W3.alloc (.cells #[] 36)) := below_alloc (Below.refl _ _) _
      rcases hf1 : (c.fmt == 1) with _ | _
      · rw [hf1] at f1
        obtain ⟨its, hits⟩ : ∃ its, Pl.adj x.at_ x.bs c.num = its := ⟨_, rfl⟩
        have HLP := Lib.hid (show 0 < its.length by rw [← hits]; exact adj_pos _ _ _ HBAR.out)
        have HLE := Lib.hid (show its.length ≤ 1048577 by rw [← hits]; have := adj_le x.at_ x.bs c.num; omega)
        have HRAW := Lib.hid (show Pl.rawOf c x.line = its by
          unfold Pl.rawOf
          rw [if_neg (by rw [show x.line.2 = x.bs from rfl, HBAR.out]; simp), if_neg (by simpa using hf1)]
          exact hits)
        have hap := aparse_own _ x.at_ x.bs c.num (W3.alloc (.cells #[] 36)) (Rd.below hXR3.out hbE) b0 b1 b2
        rw [hits] at hap
        have HAP := Lib.hid hap
        clear hap hits hf1
        gi_wp2
        refine ⟨trivial, (CallsIn.inRound l2 (callsIn_wide.2 HAP.out)).mono ?_⟩
        rintro e Wp ⟨va, rfl, hoa, hba⟩
        obtain ⟨Aa, ca, hva⟩ := Kd.R_slice hoa
        subst hva
        have HOI := Lib.hid (show OwnI Wp W3.heap.size _ its from Kd.R_mono (Kd.R_lower hoa hbE.size) (fun k hk => by have := hbE.size; omega))
        have HBP := Lib.hid (bthen hbE hba)
        clear hoa hba hbE cx0 cx1 q0 q1 HAP
        obtain ⟨Go, preI, hj1, hj2, hj3, hj4⟩ := hI.j
        have hGoG : ∀ k, Go k → G k := fun k hk => hj3 k (.inl hk)
        have hGo1 : ∀ k, Go k → k < W1.heap.size := fun k hk => (hG k (hGoG k hk)).1
        have hsp := HBP.out.size
        have hs3 := HB3.out.size
        obtain ⟨ga, capa, hva, hga0, hga1, hget⟩ := itemR_get HOI.out HLP.out
        injection hva with hva1 hva0 hva2
        subst hva1 hva2
        clear hva0
        have hst : Stays W.heap.size G W1 Wp := hst12.trans (Stays.of_below (HB3.out.trans (HBP.out.mono HB3.out.size)))
        have hJp : J Go preI Wp := hJ _ _ _ _ hj1 (hst.mono (Nat.le_refl _) (fun k hk => hj3 k hk))
        have hGa : ¬ Go ga := fun h => by have := hGo1 ga h; omega
        have hEI : EachI J Cap G Go W1.heap.size ((pre.map LineX.line).flatMap (Pl.rawOf c)) its Wp 0 Go preI Wp := ⟨hJp, by rw [hj2]; simp, fun k hk => ⟨by have := hGo1 k hk; omega, (hj4 k hk).2, .inl hk⟩, fun y hy k hk => by
          have h1 := hj3 k (.inr ⟨y, hy, hk⟩)
          exact ⟨.inl h1, by have := (hG k h1).1; omega⟩, Moves.refl _ _⟩
        have HEI := Lib.hid hEI
        have HGET := Lib.hid hget
        have KYP := (KY3.below HBP.out (by omega))
        have hitl := HLE.out
        clear hEI hget hJp hst hj1 hj2
        gi_wp2
        gi_loopw [32] (fun i wr => ∃ (j : Nat) (Gn : Nat → Prop) (preN : List ItemX), i = .int .i64 (j : Int) ∧ Aside0 (j ≤ its.length) ∧ Aside0 (EachI J Cap G Go W1.heap.size ((pre.map LineX.line).flatMap (Pl.rawOf c)) its Wp j Gn preN wr)) (fun i _ => its.length - (intOf i).toNat)
        case atStart => exact ⟨0, Go, preI, rfl, ⟨by omega⟩, ⟨HEI.out⟩⟩
        case round =>
          obtain ⟨j, Gn, preN, rfl, hj, HE⟩ := hrel
          by_cases hlt : j < its.length
          · obtain ⟨it, hit⟩ : ∃ it, its[j]? = some it := ⟨_, List.getElem?_eq_getElem hlt⟩
            obtain ⟨A1, c1, A2, c2, hO1, hO2, x0, x1, x2, x3, x4⟩ := HGET.out j it hit
            have y0 := HE.out.cell hGa x0
            have y1 := HE.out.cell hGa x1
            have y2 := HE.out.cell hGa x2
            have y3 := HE.out.cell hGa x3
            have y4 := HE.out.cell hGa x4
            have hWG : ¬ Go W.heap.size := fun h => (hG _ (hGoG _ h)).2.1 (by simp)
            have yY := HE.out.cell hWG (KYP.cell.1 0)
            have hsr := HE.out.mv.size
            have hYr : W.heap.size < wr.heap.size := by omega
            have hgar : ga < wr.heap.size := by omega
            have hbx : Below wr.heap.size wr (wr.alloc (.cells #[.bool it.1, .slice A1 it.2.1.length c1, .slice A2 it.2.2.1.length c2, .int .i64 it.2.2.2.1, .int .i64 it.2.2.2.2] 36)) := below_alloc (Below.refl _ _) _
            have hmvx := HE.out.mv.trans (Moves.of_below (G := Go) hbx) (fun _ _ h => h)
            have hO1' : OwnB (wr.alloc (.cells #[.bool it.1, .slice A1 it.2.1.length c1, .slice A2 it.2.2.1.length c2, .int .i64 it.2.2.2.1, .int .i64 it.2.2.2.2] 36)) w.heap.size (fun k => w.heap.size ≤ k) (.slice A1 it.2.1.length c1) it.2.1 :=
              ownB_ok (Kd.R_lower (Kd.R_step hO1 (fun k hk hlt => hmvx.block k hlt (fun h => by have := hGo1 k h; omega))) (by omega)) (fun k hk => by have := hO1.1 k hk; omega)
            have hO2' : OwnB (wr.alloc (.cells #[.bool it.1, .slice A1 it.2.1.length c1, .slice A2 it.2.2.1.length c2, .int .i64 it.2.2.2.1, .int .i64 it.2.2.2.2] 36)) w.heap.size (fun k => w.heap.size ≤ k) (.slice A2 it.2.2.1.length c2) it.2.2.1 :=
              ownB_ok (Kd.R_lower (Kd.R_step hO2 (fun k hk hlt => hmvx.block k hlt (fun h => by have := hGo1 k h; omega))) (by omega)) (fun k hk => by have := hO2.1 k hk; omega)
            have hits : its = its.take j ++ it :: its.drop (j + 1) := Pl.cutD hit
            have hgood : ItemGood (Pl.rawLines b c) w.heap.size preN ⟨it, A1, c1, A2, c2⟩ (wr.alloc (.cells #[.bool it.1, .slice A1 it.2.1.length c1, .slice A2 it.2.2.1.length c2, .int .i64 it.2.2.2.1, .int .i64 it.2.2.2.2] 36)) := by
              refine ⟨⟨its.drop (j + 1) ++ restL.flatMap (Pl.rawOf c), ?_⟩, hO1', hO2'⟩
              unfold Pl.rawLines
              rw [← HX2.out, List.map_append, List.map_append, HE.out.m, List.flatMap_append, List.flatMap_append, List.map_cons, List.map_nil, List.map_cons, List.map_nil, List.flatMap_cons, List.flatMap_nil, HRAW.out]
              conv => rhs; rw [hits]
              simp
            have hhand : ∀ k, ItemHand ⟨it, A1, c1, A2, c2⟩ k → W3.heap.size ≤ k ∧ k < Wp.heap.size := fun k hk => by
              rcases hk with hk | hk
              · exact ⟨hO1.1 k hk.symm, Kd.N_lt (Kd.R_N hO1) k hk.symm⟩
              · exact ⟨hO2.1 k hk.symm, Kd.N_lt (Kd.R_N hO2) k hk.symm⟩
            have hGn : ∀ k, Gn k → k < (wr.alloc (.cells #[.bool it.1, .slice A1 it.2.1.length c1, .slice A2 it.2.2.1.length c2, .int .i64 it.2.2.2.1, .int .i64 it.2.2.2.2] 36)).heap.size ∧ ¬ Cap k := fun k hk => ⟨by have := (HE.out.g k hk).1; simp; omega, (HE.out.g k hk).2.1⟩
            obtain ⟨fn, tmps, assign, body, hy, hR⟩ := hY Gn preN ⟨it, A1, c1, A2, c2⟩ _ (hJ _ _ _ _ HE.out.jj (Stays.of_below hbx)) hGn hgood (fun k hk => ⟨fun h => by
              have h1 := hhand k hk
              rcases (HE.out.g k h).2.2 with h2 | h2
              · have := hGo1 k h2; omega
              · omega, by have := hhand k hk; simp; omega⟩)
            dsimp only [ItemX.encs] at hy
            have HGD := Lib.hid hgood
            have HHD := Lib.hid hhand
            have HBX := Lib.hid hbx
            have HIT := Lib.hid hit
            have hw1 : IntKind.i64.wrap ((j : Int) + 1) = (j : Int) + 1 := IntWalk.i64_in _ (by omega)
            have q1 : (0 : Int) ≤ (j : Int) := by omega
            have q2 : (j : Int) < (its.length : Int) := by omega
            clear hits hgood hhand hbx hmvx hO1 hO2 hO1' hO2' x0 x1 x2 x3 x4 hit hGn
            gi_wp2
            refine (yield_in hR).mono ?_
            rintro e w6 ⟨G6, hmv6, hgr6, (⟨rfl, hJ6⟩ | ⟨rfl, hJx6⟩)⟩
            · have hn6 : EachI J Cap G Go W1.heap.size ((pre.map LineX.line).flatMap (Pl.rawOf c)) its Wp (j + 1) G6 (preN ++ [⟨it, A1, c1, A2, c2⟩]) w6 := by
                have hs6 := hmv6.size
                simp only [World.size_alloc] at hs6
                refine ⟨hJ6, by rw [List.map_append, HE.out.m, Pl.takeD HIT.out]; simp, fun k hk => ?_, fun y hy k hk => ?_, ?_⟩
                · obtain ⟨h1, h2⟩ := hgr6 k hk
                  rcases h2 with h2 | h2
                  · exact ⟨h1, (HE.out.g k h2).2⟩
                  · simp only [World.size_alloc] at h2
                    exact ⟨h1, fun hc => by have := hCw k hc; omega, .inr (by omega)⟩
                · rcases List.mem_append.1 hy with hy | hy
                  · exact ⟨(HE.out.h y hy k hk).1, by have := (HE.out.h y hy k hk).2; omega⟩
                  · rw [List.mem_singleton.1 hy] at hk
                    have := HHD.out k hk
                    exact ⟨.inr (by omega), by omega⟩
                · refine (HE.out.mv.trans (Moves.of_below (G := Go) HBX.out) (fun _ _ h => h)).trans hmv6 (fun k hk hG => ?_)
                  rcases (HE.out.g k hG).2.2 with h | h
                  · exact h
                  · omega
              have HN6 := Lib.hid hn6
              clear hn6 hJ6 hmv6 hgr6 hR hy
              gi_wp2
              go_roundw
              case rel => exact ⟨j + 1, G6, preN ++ [⟨it, A1, c1, A2, c2⟩], by go_num, ⟨by omega⟩, ⟨HN6.out⟩⟩
              case measure => simp only [intOf]; omega
            · gi_wp2
              have hs6 := hmv6.size
              simp only [World.size_alloc] at hs6
              refine ⟨fun k => G k ∨ (W1.heap.size ≤ k ∧ k < w6.heap.size), ?_, fun k hk => ⟨hk.elim (fun h => by have := (hG k h).1; omega) (fun h => h.2), hk.elim .inl (fun h => .inr h.1)⟩, rfl, G6, preN ++ [⟨it, A1, c1, A2, c2⟩], hJx6, HGD.out.1, fun k hk => ?_⟩
              · have m1 : Moves Go W2 Wp := (Moves.of_below HB3.out).trans (Moves.of_below HBP.out) (fun _ _ h => h)
                have m2 := (m1.trans HE.out.mv (fun _ _ h => h)).trans (Moves.of_below (G := Go) HBX.out) (fun _ _ h => h)
                refine (m2.trans hmv6 (fun k hk hg => ?_)).mono hGoG
                rcases (HE.out.g k hg).2.2 with h | h
                · exact h
                · omega
              · rcases hk with hk | ⟨y, hy, hk⟩
                · obtain ⟨h1, h2⟩ := hgr6 k hk
                  rcases h2 with h2 | h2
                  · rcases (HE.out.g k h2).2.2 with h3 | h3
                    · exact .inl (hGoG k h3)
                    · exact .inr ⟨by omega, h1⟩
                  · simp only [World.size_alloc] at h2
                    exact .inr ⟨by omega, h1⟩
                · rcases List.mem_append.1 hy with hy | hy
                  · have h1 := HE.out.h y hy k hk
                    exact h1.1.elim .inl (fun h => .inr ⟨h, by omega⟩)
                  · rw [List.mem_singleton.1 hy] at hk
                    have := HHD.out k hk
                    exact .inr ⟨by omega, by omega⟩
          · obtain rfl : j = its.length := by have := hj.out; omega
            have hd : decide ((its.length : Int) < (its.length : Int)) = false := by simp
            have hsr := HE.out.mv.size
            gi_wp2
            have m1 : Moves Go W2 Wp := (Moves.of_below HB3.out).trans (Moves.of_below HBP.out) (fun _ _ h => h)
            have m2 := m1.trans HE.out.mv (fun _ _ h => h)
            refine ⟨fun k => G k ∨ (W1.heap.size ≤ k ∧ k < wr.heap.size), m2.mono hGoG, fun k hk => ⟨hk.elim (fun h => by have := (hG k h).1; omega) (fun h => h.2), hk.elim .inl (fun h => .inr h.1)⟩, ⟨⟨Gn, preN, HE.out.jj, ?_, fun k hk => ?_, fun k hk => ⟨(HE.out.g k hk).1, (HE.out.g k hk).2.1⟩⟩, ?_⟩⟩
            · rw [HE.out.m, List.take_of_length_le (Nat.le_refl _), List.map_append, List.flatMap_append, List.map_cons, List.map_nil, List.flatMap_cons, List.flatMap_nil, HRAW.out, List.append_nil]
            · rcases hk with hk | ⟨y, hy, hk⟩
              · obtain ⟨h1, _, h2⟩ := HE.out.g k hk
                exact h2.elim (fun h => .inl (hGoG k h)) (fun h => .inr ⟨by omega, h1⟩)
              · have h1 := HE.out.h y hy k hk
                exact h1.1.elim .inl (fun h => .inr ⟨h, h1.2⟩)
            · refine (hI.k.trans hmv12 (fun _ _ h => h)).trans (m2.mono (fun k hk => (hG k (hGoG k hk)).2.1)) (fun _ _ h => h)
      · rw [hf1] at f1
        obtain ⟨ed, hed⟩ : ∃ ed, Pl.edge x.at_ x.bs c.num = ed := ⟨_, rfl⟩
        obtain ⟨its, hits⟩ : ∃ its, [ed.t] = its := ⟨_, rfl⟩
        have HLP := Lib.hid (show 0 < its.length by rw [← hits]; simp)
        have HLE := Lib.hid (show its.length ≤ 1048577 by rw [← hits]; simp)
        have HRAW := Lib.hid (show Pl.rawOf c x.line = its by
          unfold Pl.rawOf
          rw [if_neg (by rw [show x.line.2 = x.bs from rfl, HBAR.out]; simp), if_pos (by simpa using hf1)]
          rw [← hits, ← hed]
          rfl)
        have hap := parse_any _ x.at_ x.bs c.num (W3.alloc (.cells #[] 36)) (Rd.below hXR3.out hbE) b0 b1 (by omega)
        rw [hed] at hap
        have HAP := Lib.hid hap
        have HITS := Lib.hid hits
        clear hap hits hf1 hed
        gi_wp2
        refine ⟨trivial, (CallsIn.inRound l2 (callsIn_wide.2 HAP.out)).mono ?_⟩
        rintro e W5 ⟨va, vb, rfl, hoa, hob, hba⟩
        obtain ⟨Aa, ca, hva⟩ := Kd.N_slice hoa
        obtain ⟨Ab, cb, hvb⟩ := Kd.N_slice hob
        subst hva hvb
        have hs5 := hba.size
        simp only [World.size_alloc] at hs5
        have hnil := Kd.R_below (items_nil (base := W3.heap.size) (Nat.le_refl W3.heap.size)) hba
        have HA5 := Lib.hid (OwnB.of hoa)
        have HB5 := Lib.hid (OwnB.of hob)
        have HNIL := Lib.hid hnil
        have HB35 := Lib.hid (bthen hbE hba)
        have hM : kItem.M W5 W3.heap.size (fun k => W3.heap.size + 1 ≤ k) (ed.two, ed.a, ed.b, ed.code, ed.at_) [.bool ed.two, .slice Aa ed.a.length ca, .slice Ab ed.b.length cb, .int .i64 ed.code, .int .i64 ed.at_] :=
          item_M (ownB_ok (Kd.R_lower HA5.out (by simp)) (fun k hk => by have := HA5.out.1 k hk; simpa using this)) (ownB_ok (Kd.R_lower HB5.out (by simp)) (fun k hk => by have := HB5.out.1 k hk; simpa using this))
        have HM := Lib.hid hM
        clear hoa hob hba hbE cx0 cx1 q0 q1 HAP hnil hM HA5 HB5
        gi_wp2_with (gi_at_builtin; refine appendIn kItem (W := W5) W3.heap.size rfl (.tmp 19) (.tmp 24) 29 36 (.agg #[.bool false, .slice none 0 0, .slice none 0 0, .int .i64 0, .int .i64 0]) 72 rfl Try.underlying29 infoItem5 rfl (by decide) (by omega) _ [] (ed.two, ed.a, ed.b, ed.code, ed.at_) [.bool ed.two, .slice Aa ed.a.length ca, .slice Ab ed.b.length cb, .int .i64 ed.code, .int .i64 ed.at_] (fun k => W3.heap.size ≤ k) (fun k => W3.heap.size + 1 ≤ k) rfl rfl HM.out ?aQ ?aF HNIL.out ?aS ?aL ?_; (case aQ => exact fun k hk => ⟨by omega, fun he => by have h2 : some k = some W3.heap.size := he; injection h2 with h2; omega⟩); (case aF => exact fun k hk => by omega); (case aS => omega); (case aL => simp); intro v9 Wp hr9 hg9 hat9; obtain ⟨A9, c9, hv9⟩ := Kd.R_slice hr9; have hv9' : v9 = .slice A9 its.length c9 := (by rw [← HITS.out]; exact hv9); clear hv9; subst hv9'; have HOI := Lib.hid (show OwnI Wp W3.heap.size (.slice A9 its.length c9) its from (by rw [← HITS.out] at hr9 ⊢; exact hr9)); have HBP := Lib.hid (show Below W3.heap.size W3 Wp from HB35.out.grown hg9 (by omega) (fun k he => by have h2 : some W3.heap.size = some k := he; injection h2 with h2; omega)); clear hr9 hg9 hat9)
        obtain ⟨Go, preI, hj1, hj2, hj3, hj4⟩ := hI.j
        have hGoG : ∀ k, Go k → G k := fun k hk => hj3 k (.inl hk)
        have hGo1 : ∀ k, Go k → k < W1.heap.size := fun k hk => (hG k (hGoG k hk)).1
        have hsp := HBP.out.size
        have hs3 := HB3.out.size
        obtain ⟨ga, capa, hva, hga0, hga1, hget⟩ := itemR_get HOI.out HLP.out
        injection hva with hva1 hva0 hva2
        subst hva1 hva2
        clear hva0
        have hst : Stays W.heap.size G W1 Wp := hst12.trans (Stays.of_below (HB3.out.trans (HBP.out.mono HB3.out.size)))
        have hJp : J Go preI Wp := hJ _ _ _ _ hj1 (hst.mono (Nat.le_refl _) (fun k hk => hj3 k hk))
        have hGa : ¬ Go ga := fun h => by have := hGo1 ga h; omega
        have hEI : EachI J Cap G Go W1.heap.size ((pre.map LineX.line).flatMap (Pl.rawOf c)) its Wp 0 Go preI Wp := ⟨hJp, by rw [hj2]; simp, fun k hk => ⟨by have := hGo1 k hk; omega, (hj4 k hk).2, .inl hk⟩, fun y hy k hk => by
          have h1 := hj3 k (.inr ⟨y, hy, hk⟩)
          exact ⟨.inl h1, by have := (hG k h1).1; omega⟩, Moves.refl _ _⟩
        have HEI := Lib.hid hEI
        have HGET := Lib.hid hget
        have KYP := (KY3.below HBP.out (by omega))
        have hitl := HLE.out
        clear hEI hget hJp hst hj1 hj2
        gi_wp2
        gi_loopw [32] (fun i wr => ∃ (j : Nat) (Gn : Nat → Prop) (preN : List ItemX), i = .int .i64 (j : Int) ∧ Aside0 (j ≤ its.length) ∧ Aside0 (EachI J Cap G Go W1.heap.size ((pre.map LineX.line).flatMap (Pl.rawOf c)) its Wp j Gn preN wr)) (fun i _ => its.length - (intOf i).toNat)
        case atStart => exact ⟨0, Go, preI, rfl, ⟨by omega⟩, ⟨HEI.out⟩⟩
        case round =>
          obtain ⟨j, Gn, preN, rfl, hj, HE⟩ := hrel
          by_cases hlt : j < its.length
          · obtain ⟨it, hit⟩ : ∃ it, its[j]? = some it := ⟨_, List.getElem?_eq_getElem hlt⟩
            obtain ⟨A1, c1, A2, c2, hO1, hO2, x0, x1, x2, x3, x4⟩ := HGET.out j it hit
            have y0 := HE.out.cell hGa x0
            have y1 := HE.out.cell hGa x1
            have y2 := HE.out.cell hGa x2
            have y3 := HE.out.cell hGa x3
            have y4 := HE.out.cell hGa x4
            have hWG : ¬ Go W.heap.size := fun h => (hG _ (hGoG _ h)).2.1 (by simp)
            have yY := HE.out.cell hWG (KYP.cell.1 0)
            have hsr := HE.out.mv.size
            have hYr : W.heap.size < wr.heap.size := by omega
            have hgar : ga < wr.heap.size := by omega
            have hbx : Below wr.heap.size wr (wr.alloc (.cells #[.bool it.1, .slice A1 it.2.1.length c1, .slice A2 it.2.2.1.length c2, .int .i64 it.2.2.2.1, .int .i64 it.2.2.2.2] 36)) := below_alloc (Below.refl _ _) _
            have hmvx := HE.out.mv.trans (Moves.of_below (G := Go) hbx) (fun _ _ h => h)
            have hO1' : OwnB (wr.alloc (.cells #[.bool it.1, .slice A1 it.2.1.length c1, .slice A2 it.2.2.1.length c2, .int .i64 it.2.2.2.1, .int .i64 it.2.2.2.2] 36)) w.heap.size (fun k => w.heap.size ≤ k) (.slice A1 it.2.1.length c1) it.2.1 :=
              ownB_ok (Kd.R_lower (Kd.R_step hO1 (fun k hk hlt => hmvx.block k hlt (fun h => by have := hGo1 k h; omega))) (by omega)) (fun k hk => by have := hO1.1 k hk; omega)
            have hO2' : OwnB (wr.alloc (.cells #[.bool it.1, .slice A1 it.2.1.length c1, .slice A2 it.2.2.1.length c2, .int .i64 it.2.2.2.1, .int .i64 it.2.2.2.2] 36)) w.heap.size (fun k => w.heap.size ≤ k) (.slice A2 it.2.2.1.length c2) it.2.2.1 :=
              ownB_ok (Kd.R_lower (Kd.R_step hO2 (fun k hk hlt => hmvx.block k hlt (fun h => by have := hGo1 k h; omega))) (by omega)) (fun k hk => by have := hO2.1 k hk; omega)
            have hits : its = its.take j ++ it :: its.drop (j + 1) := Pl.cutD hit
            have hgood : ItemGood (Pl.rawLines b c) w.heap.size preN ⟨it, A1, c1, A2, c2⟩ (wr.alloc (.cells #[.bool it.1, .slice A1 it.2.1.length c1, .slice A2 it.2.2.1.length c2, .int .i64 it.2.2.2.1, .int .i64 it.2.2.2.2] 36)) := by
              refine ⟨⟨its.drop (j + 1) ++ restL.flatMap (Pl.rawOf c), ?_⟩, hO1', hO2'⟩
              unfold Pl.rawLines
              rw [← HX2.out, List.map_append, List.map_append, HE.out.m, List.flatMap_append, List.flatMap_append, List.map_cons, List.map_nil, List.map_cons, List.map_nil, List.flatMap_cons, List.flatMap_nil, HRAW.out]
              conv => rhs; rw [hits]
              simp
            have hhand : ∀ k, ItemHand ⟨it, A1, c1, A2, c2⟩ k → W3.heap.size ≤ k ∧ k < Wp.heap.size := fun k hk => by
              rcases hk with hk | hk
              · exact ⟨hO1.1 k hk.symm, Kd.N_lt (Kd.R_N hO1) k hk.symm⟩
              · exact ⟨hO2.1 k hk.symm, Kd.N_lt (Kd.R_N hO2) k hk.symm⟩
            have hGn : ∀ k, Gn k → k < (wr.alloc (.cells #[.bool it.1, .slice A1 it.2.1.length c1, .slice A2 it.2.2.1.length c2, .int .i64 it.2.2.2.1, .int .i64 it.2.2.2.2] 36)).heap.size ∧ ¬ Cap k := fun k hk => ⟨by have := (HE.out.g k hk).1; simp; omega, (HE.out.g k hk).2.1⟩
            obtain ⟨fn, tmps, assign, body, hy, hR⟩ := hY Gn preN ⟨it, A1, c1, A2, c2⟩ _ (hJ _ _ _ _ HE.out.jj (Stays.of_below hbx)) hGn hgood (fun k hk => ⟨fun h => by
              have h1 := hhand k hk
              rcases (HE.out.g k h).2.2 with h2 | h2
              · have := hGo1 k h2; omega
              · omega, by have := hhand k hk; simp; omega⟩)
            dsimp only [ItemX.encs] at hy
            have HGD := Lib.hid hgood
            have HHD := Lib.hid hhand
            have HBX := Lib.hid hbx
            have HIT := Lib.hid hit
            have hw1 : IntKind.i64.wrap ((j : Int) + 1) = (j : Int) + 1 := IntWalk.i64_in _ (by omega)
            have q1 : (0 : Int) ≤ (j : Int) := by omega
            have q2 : (j : Int) < (its.length : Int) := by omega
            clear hits hgood hhand hbx hmvx hO1 hO2 hO1' hO2' x0 x1 x2 x3 x4 hit hGn
            gi_wp2
            refine (yield_in hR).mono ?_
            rintro e w6 ⟨G6, hmv6, hgr6, (⟨rfl, hJ6⟩ | ⟨rfl, hJx6⟩)⟩
            · have hn6 : EachI J Cap G Go W1.heap.size ((pre.map LineX.line).flatMap (Pl.rawOf c)) its Wp (j + 1) G6 (preN ++ [⟨it, A1, c1, A2, c2⟩]) w6 := by
                have hs6 := hmv6.size
                simp only [World.size_alloc] at hs6
                refine ⟨hJ6, by rw [List.map_append, HE.out.m, Pl.takeD HIT.out]; simp, fun k hk => ?_, fun y hy k hk => ?_, ?_⟩
                · obtain ⟨h1, h2⟩ := hgr6 k hk
                  rcases h2 with h2 | h2
                  · exact ⟨h1, (HE.out.g k h2).2⟩
                  · simp only [World.size_alloc] at h2
                    exact ⟨h1, fun hc => by have := hCw k hc; omega, .inr (by omega)⟩
                · rcases List.mem_append.1 hy with hy | hy
                  · exact ⟨(HE.out.h y hy k hk).1, by have := (HE.out.h y hy k hk).2; omega⟩
                  · rw [List.mem_singleton.1 hy] at hk
                    have := HHD.out k hk
                    exact ⟨.inr (by omega), by omega⟩
                · refine (HE.out.mv.trans (Moves.of_below (G := Go) HBX.out) (fun _ _ h => h)).trans hmv6 (fun k hk hG => ?_)
                  rcases (HE.out.g k hG).2.2 with h | h
                  · exact h
                  · omega
              have HN6 := Lib.hid hn6
              clear hn6 hJ6 hmv6 hgr6 hR hy
              gi_wp2
              go_roundw
              case rel => exact ⟨j + 1, G6, preN ++ [⟨it, A1, c1, A2, c2⟩], by go_num, ⟨by omega⟩, ⟨HN6.out⟩⟩
              case measure => simp only [intOf]; omega
            · gi_wp2
              have hs6 := hmv6.size
              simp only [World.size_alloc] at hs6
              refine ⟨fun k => G k ∨ (W1.heap.size ≤ k ∧ k < w6.heap.size), ?_, fun k hk => ⟨hk.elim (fun h => by have := (hG k h).1; omega) (fun h => h.2), hk.elim .inl (fun h => .inr h.1)⟩, rfl, G6, preN ++ [⟨it, A1, c1, A2, c2⟩], hJx6, HGD.out.1, fun k hk => ?_⟩
              · have m1 : Moves Go W2 Wp := (Moves.of_below HB3.out).trans (Moves.of_below HBP.out) (fun _ _ h => h)
                have m2 := (m1.trans HE.out.mv (fun _ _ h => h)).trans (Moves.of_below (G := Go) HBX.out) (fun _ _ h => h)
                refine (m2.trans hmv6 (fun k hk hg => ?_)).mono hGoG
                rcases (HE.out.g k hg).2.2 with h | h
                · exact h
                · omega
              · rcases hk with hk | ⟨y, hy, hk⟩
                · obtain ⟨h1, h2⟩ := hgr6 k hk
                  rcases h2 with h2 | h2
                  · rcases (HE.out.g k h2).2.2 with h3 | h3
                    · exact .inl (hGoG k h3)
                    · exact .inr ⟨by omega, h1⟩
                  · simp only [World.size_alloc] at h2
                    exact .inr ⟨by omega, h1⟩
                · rcases List.mem_append.1 hy with hy | hy
                  · have h1 := HE.out.h y hy k hk
                    exact h1.1.elim .inl (fun h => .inr ⟨h, by omega⟩)
                  · rw [List.mem_singleton.1 hy] at hk
                    have := HHD.out k hk
                    exact .inr ⟨by omega, by omega⟩
          · obtain rfl : j = its.length := by have := hj.out; omega
            have hd : decide ((its.length : Int) < (its.length : Int)) = false := by simp
            have hsr := HE.out.mv.size
            gi_wp2
            have m1 : Moves Go W2 Wp := (Moves.of_below HB3.out).trans (Moves.of_below HBP.out) (fun _ _ h => h)
            have m2 := m1.trans HE.out.mv (fun _ _ h => h)
            refine ⟨fun k => G k ∨ (W1.heap.size ≤ k ∧ k < wr.heap.size), m2.mono hGoG, fun k hk => ⟨hk.elim (fun h => by have := (hG k h).1; omega) (fun h => h.2), hk.elim .inl (fun h => .inr h.1)⟩, ⟨⟨Gn, preN, HE.out.jj, ?_, fun k hk => ?_, fun k hk => ⟨(HE.out.g k hk).1, (HE.out.g k hk).2.1⟩⟩, ?_⟩⟩
            · rw [HE.out.m, List.take_of_length_le (Nat.le_refl _), List.map_append, List.flatMap_append, List.map_cons, List.map_nil, List.flatMap_cons, List.flatMap_nil, HRAW.out, List.append_nil]
            · rcases hk with hk | ⟨y, hy, hk⟩
              · obtain ⟨h1, _, h2⟩ := HE.out.g k hk
                exact h2.elim (fun h => .inl (hGoG k h)) (fun h => .inr ⟨by omega, h1⟩)
              · have h1 := HE.out.h y hy k hk
                exact h1.1.elim .inl (fun h => .inr ⟨h, h1.2⟩)
            · refine (hI.k.trans hmv12 (fun _ _ h => h)).trans (m2.mono (fun k hk => (hG k (hGoG k hk)).2.1)) (fun _ _ h => h)
    · have hraw : Pl.rawOf c x.line = [] := by unfold Pl.rawOf; rw [if_pos (show Pl.bare x.line.2 = true from hbar)]
      have HRW := Lib.hid hraw
      have HB3 := Lib.hid hb3
      clear hraw hbar hb3
      gi_wp2
      obtain ⟨Go, preI, h1, h2, h3, h4⟩ := hI.j
      have hst : Stays W.heap.size G W1 W3 := hst12.trans (Stays.of_below HB3.out)
      refine ⟨G, Moves.of_below HB3.out, fun k hk => ⟨by have := (hG k hk).1; have := HB3.out.size; omega, .inl hk⟩, ⟨⟨Go, preI, hJ _ _ _ _ h1 (hst.mono (Nat.le_refl _) (fun k hk => h3 k hk)), ?_, h3, fun k hk => ⟨by have := (h4 k hk).1; have := HB3.out.size; omega, (h4 k hk).2⟩⟩, ?_⟩⟩
      · rw [List.map_append, List.flatMap_append, h2, List.map_cons, List.map_nil, List.flatMap_cons, HRW.out]
        simp
      · exact (hI.k.trans hmv12 (fun _ _ h => h)).trans (Moves.of_below (G := fun k => ¬ (Cap k ∨ k = W.heap.size ∨ k = W.heap.size + 1)) HB3.out) (fun _ _ h => h)
end Go.Proofs.Ytchbfeejpdfmhaa
