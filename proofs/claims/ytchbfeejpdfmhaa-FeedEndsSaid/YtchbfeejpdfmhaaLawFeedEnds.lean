import Derived.Test.YtchbfeejpdfmhaaFeedCfg
/-! The law FeedEnds, walked. -/
set_option linter.unusedSimpArgs false
set_option linter.unusedVariables false
namespace Go.Proofs.Ytchbfeejpdfmhaa
open Go.RowKit Go.Shelf Go.Proofs.YtchbfeejpdfmhaaW.PrintWords Go.Proofs.YtchbfeejpdfmhaaW.PrintLast Go.Proofs.YtchbfeejpdfmhaaW.PrintMore
attribute [local go_sem] max2_int min2_int max_two min_two Oper.semAt_some

/-- Behind a loop that lists up to N + 1 items. -/
def EndsMid (s N : Nat) (L : List Pl.ItT) (a : Act) (W : World) (e : Exit) (a' : Act) (W' : World) : Prop :=
  (e = .normal ∨ e = .exit 2) ∧ a' = { a with defers := { target := .collected W.heap.size, args := #[] } :: a.defers } ∧ W'.heap[W.heap.size]? = some (.deferred (some [])) ∧ Moves (fun k => k = s) W W' ∧ ∃ v, Blk W' s #[v] 29 ∧ Rd kItem W' v (L.take (N + 1))

theorem ends_mid {P : Program} {co : Code} {s N : Nat} {L : List Pl.ItT} {Q : Exit → Act → World → Prop} {a : Act} {W : World} (h : co.wpIn Fence.wide 9 P (EndsMid s N L a W) a W) (hq : ∀ e a' W', EndsMid s N L a W e a' W' → Q e a' W') : co.wp P Q a W := wpIn_wide.1 (wpIn_mono h hq)
theorem fallB_any (v : Value) (b : List UInt8) (c : Pl.Cfg) (w : World) (hv : Rd kb w v b) :
    Calls Try.prog 22 #[v, cfgV c] w fun e w' => e = .returned (.func (.func 35) #[] #[.pointer (some ⟨w.heap.size + 1, 0, none⟩), .pointer (some ⟨w.heap.size, 0, none⟩)]) ∧ Below w.heap.size w w' ∧ Blk w' w.heap.size #[v] 22 ∧ Blk w' (w.heap.size + 1) (cfgC c) 40 := by
  refine (fall_any v b c w hv).mono ?_
  rintro e w' ⟨rfl, rfl⟩
  refine ⟨rfl, below_alloc (below_alloc (Below.refl _ _) _) _, (Blk.new _ _ _).alloc _, ?_⟩
  have := Blk.new (w.alloc (.cells #[v] 22)) (cfgC c) 40
  simpa using this

set_option maxRecDepth 100000 in
set_option maxHeartbeats 4000000 in
theorem feedEnds_walk (v : Value) (b : List UInt8) (c : Pl.Cfg) (m : Int) (w : World) (hv : Rd kb w v b) (_ : b.length ≤ 140737488351232) (_ : CfgIn c) (hm0 : 0 ≤ m) (hm1 : m ≤ 255) :
    Calls Try.prog 7 #[v, cfgV c, .int .u8 m] w fun e w' => e = .returned (.bool true) ∧ Below w.heap.size w w' := by
  obtain ⟨N, rfl⟩ : ∃ N : Nat, m = (N : Int) := ⟨m.toNat, by omega⟩
  have HR := Lib.hid hv
  obtain ⟨A0, c0, rfl, hc0, _⟩ := hv
  obtain ⟨l, hll⟩ : ∃ l, b.take 1000 = l := ⟨_, rfl⟩
  have hl2 : l.length ≤ 1000 := by rw [← hll]; simp; omega
  have hl3 : l.length ≤ 1048576 := by omega
  have HLL := Lib.hid hll
  clear hll
  refine (callsIn_wide (n := 9)).1 ?_
  refine callsIn_of_wp_marks Try.func7 rfl trivial ?_ rfl
  simp only [Try.ntmps7, List.size_toArray, List.length_cons, List.length_nil, Nat.reduceAdd, Nat.reduceSub, Array.replicate_succ, Array.replicate_zero, List.push_toArray, List.append_toArray, List.nil_append, List.cons_append]
  refine wpIn_wide.2 ?_
  go_wp2_with fail
  refine calls_at fun W1 hW1 => ?_
  have hb1 : Below w.heap.size w W1 := by rw [← hW1]; exact below_alloc (below_alloc (Below.refl _ _) _) _
  have K1 : Blk W1 w.heap.size (cfgC c) 40 := by rw [← hW1]; exact (Blk.new _ _ _).alloc _
  obtain ⟨u, hu⟩ : ∃ u, w.heap.size + 1 = u := ⟨_, rfl⟩
  have KU1 : Blk W1 u #[.int .u8 (N : Int)] 5 := by
    rw [← hW1, ← hu]
    have := Blk.new (w.alloc (.cells (cfgC c) 40)) #[.int .u8 (N : Int)] 5
    simpa using this
  rw [hu]
  clear hW1 hu
  refine (shown11_any _).mono ?_
  rintro e W2 ⟨rfl, hb2⟩
  have K2 := K1.belowW hb2
  have KU2 := KU1.belowW hb2
  have hbw2 := bthen hb1 hb2
  clear hb1 hb2 K1 KU1
  go_wp2_with fail
  have hlt2 : w.heap.size < W2.drew.heap.size := K2.lt
  have HBD : Below w.heap.size w W2.drew := hbw2.drew
  have KH2 := Lib.hid (cfgAt_of K2.drew)
  go_region_held3 (fun W => W.cell? ⟨w.heap.size, 0, none⟩ = some (.int .u8 (c.fmt.toNat : Int)) ∧ W.cell? ⟨w.heap.size, 1, none⟩ = some (.bool c.num) ∧ W.cell? ⟨w.heap.size, 2, none⟩ = some (.bool c.skip) ∧ W.cell? ⟨w.heap.size, 3, none⟩ = some (.bool c.both) ∧ W.cell? ⟨w.heap.size, 4, none⟩ = some (.bool c.loops) ∧ W.cell? ⟨w.heap.size, 5, none⟩ = some (.bool c.back) ∧ W.cell? ⟨w.heap.size, 6, none⟩ = some (.int .i64 c.bud) ∧ W.cell? ⟨w.heap.size, 7, none⟩ = some (.int .i64 c.fan) ∧ W.cell? ⟨w.heap.size, 8, none⟩ = some (.int .i64 c.sha)) (first | exact KH2.out | exact cfgAt_below KH2.out hb5 hlt2)
    (first | (go_at_call 21; refine (few11_any _ b _ (Rd.below HR.out HBD)).mono ?_; rintro e w4 ⟨v4, rfl, hr4, rfl⟩; rw [HLL.out] at hr4; obtain ⟨A4, c4, hv4⟩ := Kd.V_slice hr4; subst hv4) | (go_at_call 20; refine (list11_any _ l c _ hr4 hl3).mono ?_; rintro e w5 ⟨v5, rfl, ho5, hb5⟩; obtain ⟨A5, c5, hv5⟩ := Kd.R_slice ho5; subst hv5))
  have K5 := K2.drew.belowW hb5
  have KU5 := KU2.drew.belowW hb5
  have hbw5 := bthen hbw2.drew hb5
  have hlt5 : w.heap.size < w5.drew.heap.size := K5.lt
  have KH5 := Lib.hid (cfgAt_of K5.drew)
  have HL5 := Lib.hid (Own.rd (Kd.R_N ho5))
  clear hr4 ho5 hb5 HBD KH2 hlt2 K2 KU2 hbw2
  go_wp2_with fail
  have HBD : Below w.heap.size w w5.drew := hbw5.drew
  go_region_held3 (fun W => W.cell? ⟨w.heap.size, 0, none⟩ = some (.int .u8 (c.fmt.toNat : Int)) ∧ W.cell? ⟨w.heap.size, 1, none⟩ = some (.bool c.num) ∧ W.cell? ⟨w.heap.size, 2, none⟩ = some (.bool c.skip) ∧ W.cell? ⟨w.heap.size, 3, none⟩ = some (.bool c.both) ∧ W.cell? ⟨w.heap.size, 4, none⟩ = some (.bool c.loops) ∧ W.cell? ⟨w.heap.size, 5, none⟩ = some (.bool c.back) ∧ W.cell? ⟨w.heap.size, 6, none⟩ = some (.int .i64 c.bud) ∧ W.cell? ⟨w.heap.size, 7, none⟩ = some (.int .i64 c.fan) ∧ W.cell? ⟨w.heap.size, 8, none⟩ = some (.int .i64 c.sha)) (first | exact KH5.out | exact cfgAt_below KH5.out hb6 hlt5)
    (first | (go_at_call 21; refine (few11_any _ b _ (Rd.below HR.out HBD)).mono ?_; rintro e w4 ⟨v4, rfl, hr4, rfl⟩; rw [HLL.out] at hr4; obtain ⟨A4, c4, hv4⟩ := Kd.V_slice hr4; subst hv4) | (go_at_call 22; refine (fallB_any _ l c _ hr4).mono ?_; rintro e w6 ⟨rfl, hb6, hKB6, hKC6⟩))
  obtain ⟨g, hg⟩ : ∃ g, w5.heap.size = g := ⟨_, rfl⟩
  have KB6 : Blk w6 g #[.slice A4 l.length c4] 22 := by rw [← hg]; exact hKB6
  have KC6 : Blk w6 (g + 1) (cfgC c) 40 := by rw [← hg]; exact hKC6
  have KU6 := KU5.drew.belowW hb6
  have HB6 := Lib.hid (bthen hbw5.drew hb6)
  have HZ6 := Lib.hid (Below.refl w6.heap.size w6)
  have hgz : g + 1 < w6.heap.size := KC6.lt
  have huz : u < w6.heap.size := KU6.lt
  have HL6 := Lib.hid (Rd.below (Kd.V_drew HL5.out) hb6)
  have HRL := Lib.hid (Rd.below hr4 hb6)
  rw [hg]
  have hnil : ∀ (cap : Array Value) (W : World), (binOp .eql 45 (.func (.func 35) #[] cap) Value.nilFunc).run Try.prog W = .ok (.bool false) W := fun cap W => by kernel_rfl
  have heg := enters_of Try.func35 (P := Try.prog) (f := 35) (by kernel_rfl) rfl
  clear hr4 hb6 HBD KH5 hlt5 K5 KU5 hbw5 HL5 hKB6 hKC6
  go_wp2_with fail
  obtain ⟨Aq, cq, hvq, hcq, hFq⟩ := HL6.out
  injection hvq with hvqa _ hvqb
  obtain ⟨mm, hmm⟩ : ∃ mm, min (Pl.items l c).length (N + 1) = mm := ⟨_, rfl⟩
  obtain ⟨cut, hVX⟩ := item_to hFq hcq mm (by omega)
  have htk : (Pl.items l c).take mm = (Pl.items l c).take (N + 1) := by
    rw [← hmm]
    rcases Nat.le_total (Pl.items l c).length (N + 1) with h | h
    · rw [Nat.min_eq_left h, List.take_of_length_le (Nat.le_refl _), List.take_of_length_le h]
    · rw [Nat.min_eq_right h]
  rw [htk] at hVX
  rw [← hvqa, ← hvqb] at hVX cut
  have hwN : IntKind.i64.wrap (N : Int) = (N : Int) := IntWalk.i64_in _ (by omega)
  have hwn : IntKind.i64.wrap ((N : Int) + 1) = (N : Int) + 1 := IntWalk.i64_in _ (by omega)
  obtain ⟨T, hT⟩ : ∃ T, (Pl.items l c).take (N + 1) = T := ⟨_, rfl⟩
  rw [hT] at hVX
  have HVM := Lib.hid (Kd.V_mono hVX (fun _ _ => trivial) : Rd kItem w6 (.slice A5 mm c5) T)
  have hHT := Lib.hid hT
  clear hFq hcq hvqa hvqb htk hVX hT
  rcases Nat.lt_or_ge (N + 1) (Pl.items l c).length with hmB | hmB
  · have hmA : (N : Int) + 1 < ((Pl.items l c).length : Int) := by omega
    have cutx := cut .i64 ((N : Int) + 1) (by omega)
    clear cut hmm
    refine wp_loop_rounds 3 ?_
    rw [rounds_succ]
    go_wp2_with fail
    refine wp_at fun Wr1 hWr1 => ?_
    obtain ⟨s1, hs1⟩ : ∃ s, w6.heap.size = s := ⟨_, rfl⟩
    have hbP1 : Below w6.heap.size w6 Wr1 := by rw [← hWr1]; exact below_alloc (Below.refl _ _) _
    have KS1 : Blk Wr1 s1 #[.slice none 0 0] 29 := by rw [← hWr1, ← hs1]; exact Blk.new _ _ _
    have hsl1 : s1 < Wr1.heap.size := KS1.lt
    have hsg1 : g + 1 < s1 := by rw [← hs1]; exact KC6.lt
    have hsu1 : u < s1 := by rw [← hs1]; exact KU6.lt
    have hws1 : w.heap.size ≤ s1 := by rw [← hs1]; exact HB6.out.size
    have HBr1 := Lib.hid (bthen HB6.out hbP1)
    have HZr1 := Lib.hid (bthen HZ6.out hbP1)
    have hzs1 : w6.heap.size ≤ s1 := by rw [← hs1]; exact HZ6.out.size
    have KB1 := KB6.belowW hbP1
    have KC1 := KC6.belowW hbP1
    have KU1 := KU6.belowW hbP1
    have HL1 := Lib.hid (Rd.below HL6.out hbP1)
    rw [hs1]
    clear hWr1 hbP1 hs1
    obtain ⟨Cap1, hCap1⟩ : ∃ Cap : Nat → Prop, ∀ k, Cap k ↔ k < w6.heap.size := ⟨fun k => _, fun k => Iff.rfl⟩
    have hC1 : ∀ k, Cap1 k → k < Wr1.heap.size := fun k hk => by have := (hCap1 k).1 hk; have := HZr1.out.size; omega
    have hcl1 : Wr1.cell? ⟨g, 0, none⟩ = some (.slice A4 l.length c4) := KB1.cell.1 0
    have hsq1 := fall1_seq2 (g + 1) g _ l c hl3 w6 Wr1 HZr1.out Cap1 (fun k hk => (hCap1 k).2 hk) hC1 ((hCap1 _).2 (by omega)) ((hCap1 _).2 hgz) hcl1 KC1 HRL.out
    have hG01 : ∀ k, (fun k => k = s1) k → k < Wr1.heap.size ∧ ¬ Cap1 k := fun k hk => by
      have hk' : k = s1 := hk
      exact ⟨by omega, fun h => by have := (hCap1 k).1 h; omega⟩
    refine ends_mid (s := s1) (N := N) (L := Pl.items l c) ?range1 ?after1
    case range1 =>
      refine range_seq2 rfl heg hsq1 (fun _ => rfl) hC1 (fun G pre W => LI s1 Wr1 G pre W ∧ pre.length ≤ N) (fun co G pre W => co = .exit 2 ∧ LI s1 Wr1 G pre W ∧ pre.length = N + 1) (fun G pre A B h hs => ⟨li_stable hsl1 G pre A B h.1 hs, h.2⟩) (fun co G pre A B h hs => ⟨h.1, li_stable hsl1 G pre A B h.2.1 hs, h.2.2⟩) (fun k => k = s1) hG01
        ⟨⟨Moves.refl _ _, rfl, ⟨_, KS1, fun k hk => by simp [Value.ownBlock] at hk, by simpa using Kd.R_nil kItem 36 Wr1 Wr1.heap.size _⟩⟩, Nat.zero_le _⟩ ?round ?done ?stop
      case done =>
        rintro G xs W hS ⟨hI, hlen⟩ hne hD
        obtain ⟨v1, ho, _, hr⟩ := hI.o
        refine ⟨.inl rfl, rfl, hD, hI.bel, v1, ho, ?_⟩
        have := Own.rd (Kd.R_N (Kd.R_mono hr (fun k hk => hk.1) : kItem.R 36 W Wr1.heap.size (fun k => Wr1.heap.size ≤ k) v1 _))
        rw [hS] at this
        rw [List.take_of_length_le (by rw [← hS, List.length_map]; omega)]
        exact this
      case stop =>
        rintro G co pre W ⟨rest, hSp⟩ ⟨rfl, hI, hlen⟩ hne hD
        obtain ⟨v1, ho, _, hr⟩ := hI.o
        refine wpIn_exit ⟨.inr rfl, rfl, hD, hI.bel, v1, ho, ?_⟩
        have := Own.rd (Kd.R_N (Kd.R_mono hr (fun k hk => hk.1) : kItem.R 36 W Wr1.heap.size (fun k => Wr1.heap.size ≤ k) v1 _))
        rw [← hSp, List.take_left' (by rw [List.length_map]; exact hlen)]
        exact this
      case round =>
        rintro lo G pre x W hl1 hl2 hG ⟨hI, hpn⟩ hG2 hH hP
        dsimp only [ItemX.encs]
        gi_wp2
        refine ⟨Moves.of_below (below_alloc (Below.refl _ _) _), fun W2 _ o2 ho2 _ => ?_⟩
        have hg12 : (W.alloc (.cells #[.bool x.it.1, .slice x.A1 x.it.2.1.length x.c1, .slice x.A2 x.it.2.2.1.length x.c2, .int .i64 x.it.2.2.2.1, .int .i64 x.it.2.2.2.2] 36)).grownBy W2 (some lo) := by rw [ho2]; exact grownBy_putObj' _ _ _
        clear ho2
        have hs12 : W.heap.size + 1 ≤ W2.heap.size := by have := hg12.size; simpa using this
        have KX := (Blk.new W #[.bool x.it.1, .slice x.A1 x.it.2.1.length x.c1, .slice x.A2 x.it.2.2.1.length x.c2, .int .i64 x.it.2.2.2.1, .int .i64 x.it.2.2.2.2] 36).grown hg12 (by simp; omega)
        have hmv := hI.bel
        obtain ⟨v1, ho, hv1G, hr⟩ := hI.o
        have ko2 := (ho.alloc (.cells #[.bool x.it.1, .slice x.A1 x.it.2.1.length x.c1, .slice x.A2 x.it.2.2.1.length x.c2, .int .i64 x.it.2.2.2.1, .int .i64 x.it.2.2.2.2] 36)).grown hg12 (by simp; omega)
        have kb2 : Blk W2 u #[.int .u8 (N : Int)] 5 := ((⟨(hmv.block _ (by omega) (by omega)).trans KU1.out⟩ : Blk W u _ _).alloc _).grown hg12 (by simp; omega)
        have hr2 := Kd.R_grown (Kd.R_below hr (below_alloc (Below.refl _ _) (.cells #[.bool x.it.1, .slice x.A1 x.it.2.1.length x.c1, .slice x.A2 x.it.2.2.1.length x.c2, .int .i64 x.it.2.2.2.1, .int .i64 x.it.2.2.2.2] 36))) hg12 (fun k hk he => by
          injection he with he
          subst he
          rcases hk.2 with h | h
          · exact (hG _ h).2.2.1 rfl
          · exact (hP _ h).1 rfl)
        obtain ⟨⟨restL, hL⟩, hx1, hx2⟩ := hG2
        have hO1 := ownB_ok (ok' := fun k => ItemHand x k) (Kd.R_grown1 (Kd.R_below hx1 (below_alloc (Below.refl _ _) (.cells #[.bool x.it.1, .slice x.A1 x.it.2.1.length x.c1, .slice x.A2 x.it.2.2.1.length x.c2, .int .i64 x.it.2.2.2.1, .int .i64 x.it.2.2.2.2] 36))) rfl hg12 (fun he => (hH lo (.inl he)).2.1 rfl)) (fun k hk => .inl hk.symm)
        have hO2 := ownB_ok (ok' := fun k => ItemHand x k) (Kd.R_grown1 (Kd.R_below hx2 (below_alloc (Below.refl _ _) (.cells #[.bool x.it.1, .slice x.A1 x.it.2.1.length x.c1, .slice x.A2 x.it.2.2.1.length x.c2, .int .i64 x.it.2.2.2.1, .int .i64 x.it.2.2.2.2] 36))) rfl hg12 (fun he => (hH lo (.inr he)).2.1 rfl)) (fun k hk => .inr hk.symm)
        have hM : kItem.M W2 Wr1.heap.size (fun k => ItemHand x k) x.it [.bool x.it.1, .slice x.A1 x.it.2.1.length x.c1, .slice x.A2 x.it.2.2.1.length x.c2, .int .i64 x.it.2.2.2.1, .int .i64 x.it.2.2.2.2] := item_M hO1 hO2
        have hhw : ∀ k, ItemHand x k → Wr1.heap.size ≤ k := fun k hk => by
          rcases hk with hk | hk
          · exact hx1.1 k hk.symm
          · exact hx2.1 k hk.symm
        have hlm : (pre.map ItemX.it).length = pre.length := by simp
        obtain ⟨A1, c1, hv1⟩ := Kd.R_slice hr2
        subst hv1
        simp only [hlm] at ko2 hr2 hv1G hr
        have hr3 : kItem.R 36 W2 Wr1.heap.size (fun k => Wr1.heap.size ≤ k ∧ (G k ∨ (∃ z ∈ pre ++ [x], ItemHand z k) ∨ W2.heap.size ≤ k)) (.slice A1 pre.length c1) (pre.map ItemX.it) := Kd.R_mono hr2 (fun k hk => ⟨hk.1, hk.2.elim .inl (fun ⟨z, hz, h⟩ => .inr (.inl ⟨z, List.mem_append.2 (.inl hz), h⟩))⟩)
        have hvlow : ∀ k, (Value.slice A1 pre.length c1).ownBlock = some k → Wr1.heap.size ≤ k := fun k hk => (hr3.1 k hk).1
        have hQ : ∀ k, ItemHand x k → (Wr1.heap.size ≤ k ∧ (G k ∨ (∃ z ∈ pre ++ [x], ItemHand z k) ∨ W2.heap.size ≤ k)) ∧ some k ≠ (Value.slice A1 pre.length c1).ownBlock := fun k hk => ⟨⟨hhw k hk, .inr (.inl ⟨x, by simp, hk⟩)⟩, fun he => (hH k hk).1 (hv1G k he.symm)⟩
        have hMw : ∀ k, G k → k < W2.heap.size := fun k hk => by have := (hG k hk).1; omega
        have hmv2 : Moves (fun k => k = s1) Wr1 W2 := (hmv.trans (Moves.of_below (G := fun _ => False) (below_alloc (Below.refl _ _) _)) (fun _ _ h => h.elim)).trans (Moves.grown hg12 (G := fun k => k = lo) (fun k he => by injection he with he; exact he.symm)) (fun k hk h => by
          have h' : k = lo := h
          omega)
        obtain ⟨c0, c0f⟩ := kb2.cell
        obtain ⟨c4, c4f⟩ := ko2.cell
        obtain ⟨cx, cxf⟩ := KX.cell
        have hne4 : some s1 ≠ (Value.slice A1 pre.length c1).ownBlock := fun he => by
          have := hvlow _ he.symm
          omega
        have hne0 : some u ≠ (Value.slice A1 pre.length c1).ownBlock := fun he => by
          have := hvlow _ he.symm
          omega
        have HHW := Lib.hid hhw
        have HI := Lib.hid hI
        have HMV2 := Lib.hid hmv2
        have hus : s1 ≠ u := by omega
        clear hI hmv hmv2 hr hr2 hO1 hO2 hx1 hx2 hL hhw
        rcases Nat.lt_or_ge pre.length N with hcase | hcase
        · have hgt : decide ((N : Int) < (pre.length : Int) + 1) = false := decide_eq_false (by omega)
          gi_wp2_with (gi_at_builtin; refine appendIn kItem (W := W2) Wr1.heap.size rfl (.tmp 35) (.tmp 37) 29 36 (.agg #[.bool false, .slice none 0 0, .slice none 0 0, .int .i64 0, .int .i64 0]) 72 rfl Try.underlying29 infoItem5 rfl (by decide) (by omega) _ (pre.map ItemX.it) x.it [.bool x.it.1, .slice x.A1 x.it.2.1.length x.c1, .slice x.A2 x.it.2.2.1.length x.c2, .int .i64 x.it.2.2.2.1, .int .i64 x.it.2.2.2.2] (fun k => Wr1.heap.size ≤ k ∧ (G k ∨ (∃ z ∈ pre ++ [x], ItemHand z k) ∨ W2.heap.size ≤ k)) (fun k => ItemHand x k) rfl rfl hM ?aQ ?aF hr3 ?aS ?aL ?_; (case aQ => exact hQ); (case aF => exact fun j hj => ⟨by omega, .inr (.inr hj)⟩); (case aS => omega); (case aL => simp; omega); intro v9 w9 hr9 hg9 hat9; obtain ⟨A9, c9, hv9⟩ := Kd.R_slice hr9; rw [show (pre.map ItemX.it ++ [x.it]).length = pre.length + 1 by simp] at hv9; subst hv9; have ko9 := (ko2.grown hg9 hne4); obtain ⟨c9', c9f⟩ := ko9.cell; obtain ⟨c0', c0f'⟩ := (kb2.grown hg9 hne0).cell; have hs29 := hg9.size)
          have hs9 : (w9.setCell ⟨s1, 0, none⟩ (.slice A9 (pre.length + 1) c9)).heap.size = w9.heap.size := by simp
          have hG9 : Grows G (fun k => G k ∨ (W.heap.size ≤ k ∧ k < w9.heap.size)) W (w9.setCell ⟨s1, 0, none⟩ (.slice A9 (pre.length + 1) c9)) := fun k hk => by
            rw [hs9]
            rcases hk with h | h
            · exact ⟨by have := hMw k h; omega, .inl h⟩
            · exact ⟨h.2, .inr h.1⟩
          have hr10 := Kd.R_far (p := ⟨s1, 0, none⟩) hr9 (fun k hk => by have := hk.1; show k ≠ s1; omega) (.slice A9 (pre.length + 1) c9)
          have hM9 : Moves G W2 (w9.setCell ⟨s1, 0, none⟩ (.slice A9 (pre.length + 1) c9)) := (Moves.grown hg9 (fun k he => hv1G k he)).trans (Moves.setCell w9 ⟨s1, 0, none⟩ _ (G := G) HI.out.g) (fun _ _ h => h)
          have hM10 : Moves (fun k => k = s1) Wr1 (w9.setCell ⟨s1, 0, none⟩ (.slice A9 (pre.length + 1) c9)) := (HMV2.out.trans (Moves.grown hg9 (G := fun k => Wr1.heap.size ≤ k) (fun k he => hvlow k he)) (fun k hk h => by
            have h' : Wr1.heap.size ≤ k := h
            omega)).trans (Moves.setCell w9 ⟨s1, 0, none⟩ _ (G := fun k => k = s1) rfl) (fun _ _ h => h)
          have hOwn9 : ∀ k, (Value.slice A9 (pre.length + 1) c9).ownBlock = some k → (G k ∨ (W.heap.size ≤ k ∧ k < w9.heap.size)) := fun k hk => by
            have hlt := Kd.N_lt (Kd.R_N hr9) k hk
            rcases hat9 with h | ⟨b', h, h'⟩
            · exact .inl (hv1G k (h.symm.trans hk))
            · have h2 := hk.symm.trans h
              injection h2 with h2
              exact .inr ⟨by omega, hlt⟩
          have hR9 : kItem.R 36 (w9.setCell ⟨s1, 0, none⟩ (.slice A9 (pre.length + 1) c9)) Wr1.heap.size (fun k => Wr1.heap.size ≤ k ∧ ((G k ∨ (W.heap.size ≤ k ∧ k < w9.heap.size)) ∨ ∃ z ∈ pre ++ [x], ItemHand z k)) (.slice A9 (pre.length + 1) c9) ((pre ++ [x]).map ItemX.it) := by
            rw [List.map_append, List.map_cons, List.map_nil]
            refine Kd.R_mono (Kd.R_bound hr10) (fun k hk => ⟨hk.1.1, ?_⟩)
            have hlt := hk.2.2.1
            rw [hs9] at hlt
            rcases hk.1.2 with h | h | h
            · exact .inl (.inl h)
            · exact .inr h
            · exact .inl (.inr ⟨by omega, hlt⟩)
          refine ⟨fun k => G k ∨ (W.heap.size ≤ k ∧ k < w9.heap.size), hM9, hG9, ⟨hM10, .inl HI.out.g, ⟨_, ko9.set (cs' := #[.slice A9 (pre.length + 1) c9]) 0 _ rfl, hOwn9, hR9⟩⟩, by simp; omega⟩
        · have hgt : decide ((N : Int) < (pre.length : Int) + 1) = true := decide_eq_true (by omega)
          gi_wp2_with (gi_at_builtin; refine appendIn kItem (W := W2) Wr1.heap.size rfl (.tmp 35) (.tmp 37) 29 36 (.agg #[.bool false, .slice none 0 0, .slice none 0 0, .int .i64 0, .int .i64 0]) 72 rfl Try.underlying29 infoItem5 rfl (by decide) (by omega) _ (pre.map ItemX.it) x.it [.bool x.it.1, .slice x.A1 x.it.2.1.length x.c1, .slice x.A2 x.it.2.2.1.length x.c2, .int .i64 x.it.2.2.2.1, .int .i64 x.it.2.2.2.2] (fun k => Wr1.heap.size ≤ k ∧ (G k ∨ (∃ z ∈ pre ++ [x], ItemHand z k) ∨ W2.heap.size ≤ k)) (fun k => ItemHand x k) rfl rfl hM ?aQ ?aF hr3 ?aS ?aL ?_; (case aQ => exact hQ); (case aF => exact fun j hj => ⟨by omega, .inr (.inr hj)⟩); (case aS => omega); (case aL => simp; omega); intro v9 w9 hr9 hg9 hat9; obtain ⟨A9, c9, hv9⟩ := Kd.R_slice hr9; rw [show (pre.map ItemX.it ++ [x.it]).length = pre.length + 1 by simp] at hv9; subst hv9; have ko9 := (ko2.grown hg9 hne4); obtain ⟨c9', c9f⟩ := ko9.cell; obtain ⟨c0', c0f'⟩ := (kb2.grown hg9 hne0).cell; have hs29 := hg9.size)
          have hs9 : (w9.setCell ⟨s1, 0, none⟩ (.slice A9 (pre.length + 1) c9)).heap.size = w9.heap.size := by simp
          have hG9 : Grows G (fun k => G k ∨ (W.heap.size ≤ k ∧ k < w9.heap.size)) W (w9.setCell ⟨s1, 0, none⟩ (.slice A9 (pre.length + 1) c9)) := fun k hk => by
            rw [hs9]
            rcases hk with h | h
            · exact ⟨by have := hMw k h; omega, .inl h⟩
            · exact ⟨h.2, .inr h.1⟩
          have hr10 := Kd.R_far (p := ⟨s1, 0, none⟩) hr9 (fun k hk => by have := hk.1; show k ≠ s1; omega) (.slice A9 (pre.length + 1) c9)
          have hM9 : Moves G W2 (w9.setCell ⟨s1, 0, none⟩ (.slice A9 (pre.length + 1) c9)) := (Moves.grown hg9 (fun k he => hv1G k he)).trans (Moves.setCell w9 ⟨s1, 0, none⟩ _ (G := G) HI.out.g) (fun _ _ h => h)
          have hM10 : Moves (fun k => k = s1) Wr1 (w9.setCell ⟨s1, 0, none⟩ (.slice A9 (pre.length + 1) c9)) := (HMV2.out.trans (Moves.grown hg9 (G := fun k => Wr1.heap.size ≤ k) (fun k he => hvlow k he)) (fun k hk h => by
            have h' : Wr1.heap.size ≤ k := h
            omega)).trans (Moves.setCell w9 ⟨s1, 0, none⟩ _ (G := fun k => k = s1) rfl) (fun _ _ h => h)
          have hOwn9 : ∀ k, (Value.slice A9 (pre.length + 1) c9).ownBlock = some k → (G k ∨ (W.heap.size ≤ k ∧ k < w9.heap.size)) := fun k hk => by
            have hlt := Kd.N_lt (Kd.R_N hr9) k hk
            rcases hat9 with h | ⟨b', h, h'⟩
            · exact .inl (hv1G k (h.symm.trans hk))
            · have h2 := hk.symm.trans h
              injection h2 with h2
              exact .inr ⟨by omega, hlt⟩
          have hR9 : kItem.R 36 (w9.setCell ⟨s1, 0, none⟩ (.slice A9 (pre.length + 1) c9)) Wr1.heap.size (fun k => Wr1.heap.size ≤ k ∧ ((G k ∨ (W.heap.size ≤ k ∧ k < w9.heap.size)) ∨ ∃ z ∈ pre ++ [x], ItemHand z k)) (.slice A9 (pre.length + 1) c9) ((pre ++ [x]).map ItemX.it) := by
            rw [List.map_append, List.map_cons, List.map_nil]
            refine Kd.R_mono (Kd.R_bound hr10) (fun k hk => ⟨hk.1.1, ?_⟩)
            have hlt := hk.2.2.1
            rw [hs9] at hlt
            rcases hk.1.2 with h | h | h
            · exact .inl (.inl h)
            · exact .inr h
            · exact .inl (.inr ⟨by omega, hlt⟩)
          refine ⟨fun k => G k ∨ (W.heap.size ≤ k ∧ k < w9.heap.size), hM9, hG9, rfl, ⟨hM10, .inl HI.out.g, ⟨_, ko9.set (cs' := #[.slice A9 (pre.length + 1) c9]) 0 _ rfl, hOwn9, hR9⟩⟩, by simp; omega⟩
    case after1 =>
      rintro e ac Wx1 ⟨he, rfl, hDx1, hmx1, v1, hoS1, hrS1⟩
      have HZx1 := Lib.hid (HZr1.out.trans (hmx1.below HZr1.out.size (fun k hk => by have h' : k = s1 := hk; omega)))
      have HBx1 := Lib.hid (bthen HB6.out HZx1.out)
      have KUx1 := KU6.belowW HZx1.out
      obtain ⟨Av1, cv1, hvv1⟩ := Kd.V_slice hrS1
      subst hvv1
      have hoS1' : Wx1.cell? ⟨s1, 0, none⟩ = some (.slice Av1 T.length cv1) := by rw [← hHT.out]; exact hoS1.cell.1 0
      have HSX1 := Lib.hid (Kd.V_drew (show Rd kItem Wx1 (.slice Av1 T.length cv1) T by rw [hHT.out] at hrS1; exact hrS1) : Rd kItem Wx1.drew _ _)
      have HVX1 := Lib.hid (Kd.V_drew (Rd.below HVM.out HZx1.out) : Rd kItem Wx1.drew _ _)
      have hsx1 : s1 < Wx1.drew.heap.size := hoS1.lt
      have hux1 : u < Wx1.drew.heap.size := KUx1.lt
      have KHx1 := Lib.hid (show Wx1.drew.cell? ⟨s1, 0, none⟩ = some (.slice Av1 T.length cv1) ∧ Wx1.drew.cell? ⟨u, 0, none⟩ = some (.int .u8 (N : Int)) from ⟨hoS1', KUx1.drew.cell.1 0⟩)
      have hDd1 : Wr1.heap.size < Wx1.drew.heap.size := (Array.getElem?_eq_some_iff.1 hDx1).1
      clear hrS1 hoS1 hoS1'
      rcases he with rfl | rfl
      all_goals
        go_wp2_with fail
        first | (have hmE : ¬ (N : Int) + 1 < ((Pl.items l c).length : Int) := by omega) | skip
        go_region_held3 (fun W => W.cell? ⟨s1, 0, none⟩ = some (.slice Av1 T.length cv1) ∧ W.cell? ⟨u, 0, none⟩ = some (.int .u8 (N : Int))) (first | exact KHx1.out | exact ⟨(hbS1.cell (p := ⟨s1, 0, none⟩) hsx1).trans KHx1.out.1, (hbS1.cell (p := ⟨u, 0, none⟩) hux1).trans KHx1.out.2⟩)
          (first | (go_at_call 13; refine (sameAll_any _ _ T _ HSX1.out HVX1.out).mono ?_; rintro e wS1 ⟨rfl, hbS1⟩))
        all_goals
          have HZS1 := Lib.hid (bthen HZx1.out.drew hbS1)
          have HBS1 := Lib.hid (bthen HBx1.out.drew hbS1)
          have hDS1 : wS1.heap[Wr1.heap.size]? = some (.deferred (some [])) := (hbS1.block _ hDd1).trans hDx1
          have KBS1 := KB6.belowW HZS1.out
          have KCS1 := KC6.belowW HZS1.out
          have KUS1 := KU6.belowW HZS1.out
          have HLS1 := Lib.hid (Rd.below HL6.out HZS1.out)
          clear hbS1 KHx1 HSX1 HVX1 HBx1 HZx1
          go_wp2_with fail
          rw [rounds_succ]
          go_wp2_with fail
          refine wp_at fun Wr2 hWr2 => ?_
          obtain ⟨s2, hs2⟩ : ∃ s, wS1.heap.size = s := ⟨_, rfl⟩
          have hbP2 : Below wS1.heap.size wS1 Wr2 := by rw [← hWr2]; exact below_alloc (Below.refl _ _) _
          have KS2 : Blk Wr2 s2 #[.slice none 0 0] 29 := by rw [← hWr2, ← hs2]; exact Blk.new _ _ _
          have hsl2 : s2 < Wr2.heap.size := KS2.lt
          have hsg2 : g + 1 < s2 := by rw [← hs2]; exact KCS1.lt
          have hsu2 : u < s2 := by rw [← hs2]; exact KUS1.lt
          have hws2 : w.heap.size ≤ s2 := by rw [← hs2]; exact HBS1.out.size
          have HBr2 := Lib.hid (bthen HBS1.out hbP2)
          have HZr2 := Lib.hid (bthen HZS1.out hbP2)
          have hzs2 : w6.heap.size ≤ s2 := by rw [← hs2]; exact HZS1.out.size
          have KB2 := KBS1.belowW hbP2
          have KC2 := KCS1.belowW hbP2
          have KU2 := KUS1.belowW hbP2
          have HL2 := Lib.hid (Rd.below HLS1.out hbP2)
          have hDlt2 : Wr1.heap.size < s2 := by rw [← hs2]; exact (Array.getElem?_eq_some_iff.1 hDS1).1
          have hDR2 : Wr2.heap[Wr1.heap.size]? = some (.deferred (some [])) := (hbP2.block _ ((Array.getElem?_eq_some_iff.1 hDS1).1)).trans hDS1
          rw [hs2]
          clear hWr2 hbP2 hs2
          obtain ⟨Cap2, hCap2⟩ : ∃ Cap : Nat → Prop, ∀ k, Cap k ↔ k < w6.heap.size := ⟨fun k => _, fun k => Iff.rfl⟩
          have hC2 : ∀ k, Cap2 k → k < Wr2.heap.size := fun k hk => by have := (hCap2 k).1 hk; have := HZr2.out.size; omega
          have hcl2 : Wr2.cell? ⟨g, 0, none⟩ = some (.slice A4 l.length c4) := KB2.cell.1 0
          have hsq2 := fall1_seq2 (g + 1) g _ l c hl3 w6 Wr2 HZr2.out Cap2 (fun k hk => (hCap2 k).2 hk) hC2 ((hCap2 _).2 (by omega)) ((hCap2 _).2 hgz) hcl2 KC2 HRL.out
          have hG02 : ∀ k, (fun k => k = s2) k → k < Wr2.heap.size ∧ ¬ Cap2 k := fun k hk => by
            have hk' : k = s2 := hk
            exact ⟨by omega, fun h => by have := (hCap2 k).1 h; omega⟩
          refine ends_mid (s := s2) (N := N) (L := Pl.items l c) ?range2 ?after2
          case range2 =>
            refine range_seq2 rfl heg hsq2 (fun _ => rfl) hC2 (fun G pre W => LI s2 Wr2 G pre W ∧ pre.length ≤ N) (fun co G pre W => co = .exit 2 ∧ LI s2 Wr2 G pre W ∧ pre.length = N + 1) (fun G pre A B h hs => ⟨li_stable hsl2 G pre A B h.1 hs, h.2⟩) (fun co G pre A B h hs => ⟨h.1, li_stable hsl2 G pre A B h.2.1 hs, h.2.2⟩) (fun k => k = s2) hG02
              ⟨⟨Moves.refl _ _, rfl, ⟨_, KS2, fun k hk => by simp [Value.ownBlock] at hk, by simpa using Kd.R_nil kItem 36 Wr2 Wr2.heap.size _⟩⟩, Nat.zero_le _⟩ ?round ?done ?stop
            case done =>
              rintro G xs W hS ⟨hI, hlen⟩ hne hD
              obtain ⟨v1, ho, _, hr⟩ := hI.o
              refine ⟨.inl rfl, rfl, hD, hI.bel, v1, ho, ?_⟩
              have := Own.rd (Kd.R_N (Kd.R_mono hr (fun k hk => hk.1) : kItem.R 36 W Wr2.heap.size (fun k => Wr2.heap.size ≤ k) v1 _))
              rw [hS] at this
              rw [List.take_of_length_le (by rw [← hS, List.length_map]; omega)]
              exact this
            case stop =>
              rintro G co pre W ⟨rest, hSp⟩ ⟨rfl, hI, hlen⟩ hne hD
              obtain ⟨v1, ho, _, hr⟩ := hI.o
              refine wpIn_exit ⟨.inr rfl, rfl, hD, hI.bel, v1, ho, ?_⟩
              have := Own.rd (Kd.R_N (Kd.R_mono hr (fun k hk => hk.1) : kItem.R 36 W Wr2.heap.size (fun k => Wr2.heap.size ≤ k) v1 _))
              rw [← hSp, List.take_left' (by rw [List.length_map]; exact hlen)]
              exact this
            case round =>
              rintro lo G pre x W hl1 hl2 hG ⟨hI, hpn⟩ hG2 hH hP
              dsimp only [ItemX.encs]
              gi_wp2
              refine ⟨Moves.of_below (below_alloc (Below.refl _ _) _), fun W2 _ o2 ho2 _ => ?_⟩
              have hg12 : (W.alloc (.cells #[.bool x.it.1, .slice x.A1 x.it.2.1.length x.c1, .slice x.A2 x.it.2.2.1.length x.c2, .int .i64 x.it.2.2.2.1, .int .i64 x.it.2.2.2.2] 36)).grownBy W2 (some lo) := by rw [ho2]; exact grownBy_putObj' _ _ _
              clear ho2
              have hs12 : W.heap.size + 1 ≤ W2.heap.size := by have := hg12.size; simpa using this
              have KX := (Blk.new W #[.bool x.it.1, .slice x.A1 x.it.2.1.length x.c1, .slice x.A2 x.it.2.2.1.length x.c2, .int .i64 x.it.2.2.2.1, .int .i64 x.it.2.2.2.2] 36).grown hg12 (by simp; omega)
              have hmv := hI.bel
              obtain ⟨v1, ho, hv1G, hr⟩ := hI.o
              have ko2 := (ho.alloc (.cells #[.bool x.it.1, .slice x.A1 x.it.2.1.length x.c1, .slice x.A2 x.it.2.2.1.length x.c2, .int .i64 x.it.2.2.2.1, .int .i64 x.it.2.2.2.2] 36)).grown hg12 (by simp; omega)
              have kb2 : Blk W2 u #[.int .u8 (N : Int)] 5 := ((⟨(hmv.block _ (by omega) (by omega)).trans KU2.out⟩ : Blk W u _ _).alloc _).grown hg12 (by simp; omega)
              have hr2 := Kd.R_grown (Kd.R_below hr (below_alloc (Below.refl _ _) (.cells #[.bool x.it.1, .slice x.A1 x.it.2.1.length x.c1, .slice x.A2 x.it.2.2.1.length x.c2, .int .i64 x.it.2.2.2.1, .int .i64 x.it.2.2.2.2] 36))) hg12 (fun k hk he => by
                injection he with he
                subst he
                rcases hk.2 with h | h
                · exact (hG _ h).2.2.1 rfl
                · exact (hP _ h).1 rfl)
              obtain ⟨⟨restL, hL⟩, hx1, hx2⟩ := hG2
              have hO1 := ownB_ok (ok' := fun k => ItemHand x k) (Kd.R_grown1 (Kd.R_below hx1 (below_alloc (Below.refl _ _) (.cells #[.bool x.it.1, .slice x.A1 x.it.2.1.length x.c1, .slice x.A2 x.it.2.2.1.length x.c2, .int .i64 x.it.2.2.2.1, .int .i64 x.it.2.2.2.2] 36))) rfl hg12 (fun he => (hH lo (.inl he)).2.1 rfl)) (fun k hk => .inl hk.symm)
              have hO2 := ownB_ok (ok' := fun k => ItemHand x k) (Kd.R_grown1 (Kd.R_below hx2 (below_alloc (Below.refl _ _) (.cells #[.bool x.it.1, .slice x.A1 x.it.2.1.length x.c1, .slice x.A2 x.it.2.2.1.length x.c2, .int .i64 x.it.2.2.2.1, .int .i64 x.it.2.2.2.2] 36))) rfl hg12 (fun he => (hH lo (.inr he)).2.1 rfl)) (fun k hk => .inr hk.symm)
              have hM : kItem.M W2 Wr2.heap.size (fun k => ItemHand x k) x.it [.bool x.it.1, .slice x.A1 x.it.2.1.length x.c1, .slice x.A2 x.it.2.2.1.length x.c2, .int .i64 x.it.2.2.2.1, .int .i64 x.it.2.2.2.2] := item_M hO1 hO2
              have hhw : ∀ k, ItemHand x k → Wr2.heap.size ≤ k := fun k hk => by
                rcases hk with hk | hk
                · exact hx1.1 k hk.symm
                · exact hx2.1 k hk.symm
              have hlm : (pre.map ItemX.it).length = pre.length := by simp
              obtain ⟨A1, c1, hv1⟩ := Kd.R_slice hr2
              subst hv1
              simp only [hlm] at ko2 hr2 hv1G hr
              have hr3 : kItem.R 36 W2 Wr2.heap.size (fun k => Wr2.heap.size ≤ k ∧ (G k ∨ (∃ z ∈ pre ++ [x], ItemHand z k) ∨ W2.heap.size ≤ k)) (.slice A1 pre.length c1) (pre.map ItemX.it) := Kd.R_mono hr2 (fun k hk => ⟨hk.1, hk.2.elim .inl (fun ⟨z, hz, h⟩ => .inr (.inl ⟨z, List.mem_append.2 (.inl hz), h⟩))⟩)
              have hvlow : ∀ k, (Value.slice A1 pre.length c1).ownBlock = some k → Wr2.heap.size ≤ k := fun k hk => (hr3.1 k hk).1
              have hQ : ∀ k, ItemHand x k → (Wr2.heap.size ≤ k ∧ (G k ∨ (∃ z ∈ pre ++ [x], ItemHand z k) ∨ W2.heap.size ≤ k)) ∧ some k ≠ (Value.slice A1 pre.length c1).ownBlock := fun k hk => ⟨⟨hhw k hk, .inr (.inl ⟨x, by simp, hk⟩)⟩, fun he => (hH k hk).1 (hv1G k he.symm)⟩
              have hMw : ∀ k, G k → k < W2.heap.size := fun k hk => by have := (hG k hk).1; omega
              have hmv2 : Moves (fun k => k = s2) Wr2 W2 := (hmv.trans (Moves.of_below (G := fun _ => False) (below_alloc (Below.refl _ _) _)) (fun _ _ h => h.elim)).trans (Moves.grown hg12 (G := fun k => k = lo) (fun k he => by injection he with he; exact he.symm)) (fun k hk h => by
                have h' : k = lo := h
                omega)
              obtain ⟨c0, c0f⟩ := kb2.cell
              obtain ⟨c4, c4f⟩ := ko2.cell
              obtain ⟨cx, cxf⟩ := KX.cell
              have hne4 : some s2 ≠ (Value.slice A1 pre.length c1).ownBlock := fun he => by
                have := hvlow _ he.symm
                omega
              have hne0 : some u ≠ (Value.slice A1 pre.length c1).ownBlock := fun he => by
                have := hvlow _ he.symm
                omega
              have HHW := Lib.hid hhw
              have HI := Lib.hid hI
              have HMV2 := Lib.hid hmv2
              have hus : s2 ≠ u := by omega
              clear hI hmv hmv2 hr hr2 hO1 hO2 hx1 hx2 hL hhw
              rcases Nat.lt_or_ge pre.length N with hcase | hcase
              · have hgt : decide ((N : Int) < (pre.length : Int) + 1) = false := decide_eq_false (by omega)
                gi_wp2_with (gi_at_builtin; refine appendIn kItem (W := W2) Wr2.heap.size rfl (.tmp 35) (.tmp 37) 29 36 (.agg #[.bool false, .slice none 0 0, .slice none 0 0, .int .i64 0, .int .i64 0]) 72 rfl Try.underlying29 infoItem5 rfl (by decide) (by omega) _ (pre.map ItemX.it) x.it [.bool x.it.1, .slice x.A1 x.it.2.1.length x.c1, .slice x.A2 x.it.2.2.1.length x.c2, .int .i64 x.it.2.2.2.1, .int .i64 x.it.2.2.2.2] (fun k => Wr2.heap.size ≤ k ∧ (G k ∨ (∃ z ∈ pre ++ [x], ItemHand z k) ∨ W2.heap.size ≤ k)) (fun k => ItemHand x k) rfl rfl hM ?aQ ?aF hr3 ?aS ?aL ?_; (case aQ => exact hQ); (case aF => exact fun j hj => ⟨by omega, .inr (.inr hj)⟩); (case aS => omega); (case aL => simp; omega); intro v9 w9 hr9 hg9 hat9; obtain ⟨A9, c9, hv9⟩ := Kd.R_slice hr9; rw [show (pre.map ItemX.it ++ [x.it]).length = pre.length + 1 by simp] at hv9; subst hv9; have ko9 := (ko2.grown hg9 hne4); obtain ⟨c9', c9f⟩ := ko9.cell; obtain ⟨c0', c0f'⟩ := (kb2.grown hg9 hne0).cell; have hs29 := hg9.size)
                have hs9 : (w9.setCell ⟨s2, 0, none⟩ (.slice A9 (pre.length + 1) c9)).heap.size = w9.heap.size := by simp
                have hG9 : Grows G (fun k => G k ∨ (W.heap.size ≤ k ∧ k < w9.heap.size)) W (w9.setCell ⟨s2, 0, none⟩ (.slice A9 (pre.length + 1) c9)) := fun k hk => by
                  rw [hs9]
                  rcases hk with h | h
                  · exact ⟨by have := hMw k h; omega, .inl h⟩
                  · exact ⟨h.2, .inr h.1⟩
                have hr10 := Kd.R_far (p := ⟨s2, 0, none⟩) hr9 (fun k hk => by have := hk.1; show k ≠ s2; omega) (.slice A9 (pre.length + 1) c9)
                have hM9 : Moves G W2 (w9.setCell ⟨s2, 0, none⟩ (.slice A9 (pre.length + 1) c9)) := (Moves.grown hg9 (fun k he => hv1G k he)).trans (Moves.setCell w9 ⟨s2, 0, none⟩ _ (G := G) HI.out.g) (fun _ _ h => h)
                have hM10 : Moves (fun k => k = s2) Wr2 (w9.setCell ⟨s2, 0, none⟩ (.slice A9 (pre.length + 1) c9)) := (HMV2.out.trans (Moves.grown hg9 (G := fun k => Wr2.heap.size ≤ k) (fun k he => hvlow k he)) (fun k hk h => by
                  have h' : Wr2.heap.size ≤ k := h
                  omega)).trans (Moves.setCell w9 ⟨s2, 0, none⟩ _ (G := fun k => k = s2) rfl) (fun _ _ h => h)
                have hOwn9 : ∀ k, (Value.slice A9 (pre.length + 1) c9).ownBlock = some k → (G k ∨ (W.heap.size ≤ k ∧ k < w9.heap.size)) := fun k hk => by
                  have hlt := Kd.N_lt (Kd.R_N hr9) k hk
                  rcases hat9 with h | ⟨b', h, h'⟩
                  · exact .inl (hv1G k (h.symm.trans hk))
                  · have h2 := hk.symm.trans h
                    injection h2 with h2
                    exact .inr ⟨by omega, hlt⟩
                have hR9 : kItem.R 36 (w9.setCell ⟨s2, 0, none⟩ (.slice A9 (pre.length + 1) c9)) Wr2.heap.size (fun k => Wr2.heap.size ≤ k ∧ ((G k ∨ (W.heap.size ≤ k ∧ k < w9.heap.size)) ∨ ∃ z ∈ pre ++ [x], ItemHand z k)) (.slice A9 (pre.length + 1) c9) ((pre ++ [x]).map ItemX.it) := by
                  rw [List.map_append, List.map_cons, List.map_nil]
                  refine Kd.R_mono (Kd.R_bound hr10) (fun k hk => ⟨hk.1.1, ?_⟩)
                  have hlt := hk.2.2.1
                  rw [hs9] at hlt
                  rcases hk.1.2 with h | h | h
                  · exact .inl (.inl h)
                  · exact .inr h
                  · exact .inl (.inr ⟨by omega, hlt⟩)
                refine ⟨fun k => G k ∨ (W.heap.size ≤ k ∧ k < w9.heap.size), hM9, hG9, ⟨hM10, .inl HI.out.g, ⟨_, ko9.set (cs' := #[.slice A9 (pre.length + 1) c9]) 0 _ rfl, hOwn9, hR9⟩⟩, by simp; omega⟩
              · have hgt : decide ((N : Int) < (pre.length : Int) + 1) = true := decide_eq_true (by omega)
                gi_wp2_with (gi_at_builtin; refine appendIn kItem (W := W2) Wr2.heap.size rfl (.tmp 35) (.tmp 37) 29 36 (.agg #[.bool false, .slice none 0 0, .slice none 0 0, .int .i64 0, .int .i64 0]) 72 rfl Try.underlying29 infoItem5 rfl (by decide) (by omega) _ (pre.map ItemX.it) x.it [.bool x.it.1, .slice x.A1 x.it.2.1.length x.c1, .slice x.A2 x.it.2.2.1.length x.c2, .int .i64 x.it.2.2.2.1, .int .i64 x.it.2.2.2.2] (fun k => Wr2.heap.size ≤ k ∧ (G k ∨ (∃ z ∈ pre ++ [x], ItemHand z k) ∨ W2.heap.size ≤ k)) (fun k => ItemHand x k) rfl rfl hM ?aQ ?aF hr3 ?aS ?aL ?_; (case aQ => exact hQ); (case aF => exact fun j hj => ⟨by omega, .inr (.inr hj)⟩); (case aS => omega); (case aL => simp; omega); intro v9 w9 hr9 hg9 hat9; obtain ⟨A9, c9, hv9⟩ := Kd.R_slice hr9; rw [show (pre.map ItemX.it ++ [x.it]).length = pre.length + 1 by simp] at hv9; subst hv9; have ko9 := (ko2.grown hg9 hne4); obtain ⟨c9', c9f⟩ := ko9.cell; obtain ⟨c0', c0f'⟩ := (kb2.grown hg9 hne0).cell; have hs29 := hg9.size)
                have hs9 : (w9.setCell ⟨s2, 0, none⟩ (.slice A9 (pre.length + 1) c9)).heap.size = w9.heap.size := by simp
                have hG9 : Grows G (fun k => G k ∨ (W.heap.size ≤ k ∧ k < w9.heap.size)) W (w9.setCell ⟨s2, 0, none⟩ (.slice A9 (pre.length + 1) c9)) := fun k hk => by
                  rw [hs9]
                  rcases hk with h | h
                  · exact ⟨by have := hMw k h; omega, .inl h⟩
                  · exact ⟨h.2, .inr h.1⟩
                have hr10 := Kd.R_far (p := ⟨s2, 0, none⟩) hr9 (fun k hk => by have := hk.1; show k ≠ s2; omega) (.slice A9 (pre.length + 1) c9)
                have hM9 : Moves G W2 (w9.setCell ⟨s2, 0, none⟩ (.slice A9 (pre.length + 1) c9)) := (Moves.grown hg9 (fun k he => hv1G k he)).trans (Moves.setCell w9 ⟨s2, 0, none⟩ _ (G := G) HI.out.g) (fun _ _ h => h)
                have hM10 : Moves (fun k => k = s2) Wr2 (w9.setCell ⟨s2, 0, none⟩ (.slice A9 (pre.length + 1) c9)) := (HMV2.out.trans (Moves.grown hg9 (G := fun k => Wr2.heap.size ≤ k) (fun k he => hvlow k he)) (fun k hk h => by
                  have h' : Wr2.heap.size ≤ k := h
                  omega)).trans (Moves.setCell w9 ⟨s2, 0, none⟩ _ (G := fun k => k = s2) rfl) (fun _ _ h => h)
                have hOwn9 : ∀ k, (Value.slice A9 (pre.length + 1) c9).ownBlock = some k → (G k ∨ (W.heap.size ≤ k ∧ k < w9.heap.size)) := fun k hk => by
                  have hlt := Kd.N_lt (Kd.R_N hr9) k hk
                  rcases hat9 with h | ⟨b', h, h'⟩
                  · exact .inl (hv1G k (h.symm.trans hk))
                  · have h2 := hk.symm.trans h
                    injection h2 with h2
                    exact .inr ⟨by omega, hlt⟩
                have hR9 : kItem.R 36 (w9.setCell ⟨s2, 0, none⟩ (.slice A9 (pre.length + 1) c9)) Wr2.heap.size (fun k => Wr2.heap.size ≤ k ∧ ((G k ∨ (W.heap.size ≤ k ∧ k < w9.heap.size)) ∨ ∃ z ∈ pre ++ [x], ItemHand z k)) (.slice A9 (pre.length + 1) c9) ((pre ++ [x]).map ItemX.it) := by
                  rw [List.map_append, List.map_cons, List.map_nil]
                  refine Kd.R_mono (Kd.R_bound hr10) (fun k hk => ⟨hk.1.1, ?_⟩)
                  have hlt := hk.2.2.1
                  rw [hs9] at hlt
                  rcases hk.1.2 with h | h | h
                  · exact .inl (.inl h)
                  · exact .inr h
                  · exact .inl (.inr ⟨by omega, hlt⟩)
                refine ⟨fun k => G k ∨ (W.heap.size ≤ k ∧ k < w9.heap.size), hM9, hG9, rfl, ⟨hM10, .inl HI.out.g, ⟨_, ko9.set (cs' := #[.slice A9 (pre.length + 1) c9]) 0 _ rfl, hOwn9, hR9⟩⟩, by simp; omega⟩
          case after2 =>
            rintro e ac Wx2 ⟨he, rfl, hDx2, hmx2, v1, hoS2, hrS2⟩
            have HZx2 := Lib.hid (HZr2.out.trans (hmx2.below HZr2.out.size (fun k hk => by have h' : k = s2 := hk; omega)))
            have HBx2 := Lib.hid (bthen HB6.out HZx2.out)
            have KUx2 := KU6.belowW HZx2.out
            obtain ⟨Av2, cv2, hvv2⟩ := Kd.V_slice hrS2
            subst hvv2
            have hoS2' : Wx2.cell? ⟨s2, 0, none⟩ = some (.slice Av2 T.length cv2) := by rw [← hHT.out]; exact hoS2.cell.1 0
            have HSX2 := Lib.hid (Kd.V_drew (show Rd kItem Wx2 (.slice Av2 T.length cv2) T by rw [hHT.out] at hrS2; exact hrS2) : Rd kItem Wx2.drew _ _)
            have HVX2 := Lib.hid (Kd.V_drew (Rd.below HVM.out HZx2.out) : Rd kItem Wx2.drew _ _)
            have hsx2 : s2 < Wx2.drew.heap.size := hoS2.lt
            have hux2 : u < Wx2.drew.heap.size := KUx2.lt
            have KHx2 := Lib.hid (show Wx2.drew.cell? ⟨s2, 0, none⟩ = some (.slice Av2 T.length cv2) ∧ Wx2.drew.cell? ⟨u, 0, none⟩ = some (.int .u8 (N : Int)) from ⟨hoS2', KUx2.drew.cell.1 0⟩)
            have hDd2 : Wr2.heap.size < Wx2.drew.heap.size := (Array.getElem?_eq_some_iff.1 hDx2).1
            clear hrS2 hoS2 hoS2'
            rcases he with rfl | rfl
            all_goals
              go_wp2_with fail
              first | (have hmE : ¬ (N : Int) + 1 < ((Pl.items l c).length : Int) := by omega) | skip
              go_region_held3 (fun W => W.cell? ⟨s2, 0, none⟩ = some (.slice Av2 T.length cv2) ∧ W.cell? ⟨u, 0, none⟩ = some (.int .u8 (N : Int))) (first | exact KHx2.out | exact ⟨(hbS2.cell (p := ⟨s2, 0, none⟩) hsx2).trans KHx2.out.1, (hbS2.cell (p := ⟨u, 0, none⟩) hux2).trans KHx2.out.2⟩)
                (first | (go_at_call 13; refine (sameAll_any _ _ T _ HSX2.out HVX2.out).mono ?_; rintro e wS2 ⟨rfl, hbS2⟩))
              all_goals
                have HZS2 := Lib.hid (bthen HZx2.out.drew hbS2)
                have HBS2 := Lib.hid (bthen HBx2.out.drew hbS2)
                have hDS2 : wS2.heap[Wr2.heap.size]? = some (.deferred (some [])) := (hbS2.block _ hDd2).trans hDx2
                have hDT : wS2.heap[Wr1.heap.size]? = some (.deferred (some [])) := (hbS2.block _ (by have := hmx2.size; show Wr1.heap.size < Wx2.heap.size; omega)).trans ((hmx2.block _ (by omega) (by omega)).trans hDR2)
                have KBS2 := KB6.belowW HZS2.out
                have KCS2 := KC6.belowW HZS2.out
                have KUS2 := KU6.belowW HZS2.out
                have HLS2 := Lib.hid (Rd.below HL6.out HZS2.out)
                clear hbS2 KHx2 HSX2 HVX2 HBx2 HZx2
                go_wp2_with fail
                rw [rounds_succ]
                go_wp2_with fail
                have hDD : Wr1.heap.size ≠ Wr2.heap.size := by omega
                have hDT2 := (World.putObj_heap_other (w := wS2) (o := .deferred none) hDD).trans hDT
                refine ⟨by simp, .inl ⟨_, _, rfl, run_takeDeferred hDS2, ⟨by simp, .inl ⟨_, _, rfl, run_takeDeferred hDT2, ?_⟩⟩⟩⟩
                refine ⟨.bool true, by simp [results, Try.results7, go_sem], rfl, ?_⟩
                exact (HBS2.out.grown (grownBy_putObj' _ Wr2.heap.size (.deferred none)) HBS2.out.size (fun k he => by injection he with he; omega)).grown (grownBy_putObj' _ Wr1.heap.size (.deferred none)) (by have := HBS2.out.size; simpa using this) (fun k he => by injection he with he; omega)
  · have hmA : ¬ (N : Int) + 1 < ((Pl.items l c).length : Int) := by omega
    have hmD : ¬ N + 1 < (Pl.items l c).length := by omega
    have cutx := cut .i64 ((Pl.items l c).length : Int) (by omega)
    clear cut hmm
    refine wp_loop_rounds 3 ?_
    rw [rounds_succ]
    go_wp2_with fail
    refine wp_at fun Wr1 hWr1 => ?_
    obtain ⟨s1, hs1⟩ : ∃ s, w6.heap.size = s := ⟨_, rfl⟩
    have hbP1 : Below w6.heap.size w6 Wr1 := by rw [← hWr1]; exact below_alloc (Below.refl _ _) _
    have KS1 : Blk Wr1 s1 #[.slice none 0 0] 29 := by rw [← hWr1, ← hs1]; exact Blk.new _ _ _
    have hsl1 : s1 < Wr1.heap.size := KS1.lt
    have hsg1 : g + 1 < s1 := by rw [← hs1]; exact KC6.lt
    have hsu1 : u < s1 := by rw [← hs1]; exact KU6.lt
    have hws1 : w.heap.size ≤ s1 := by rw [← hs1]; exact HB6.out.size
    have HBr1 := Lib.hid (bthen HB6.out hbP1)
    have HZr1 := Lib.hid (bthen HZ6.out hbP1)
    have hzs1 : w6.heap.size ≤ s1 := by rw [← hs1]; exact HZ6.out.size
    have KB1 := KB6.belowW hbP1
    have KC1 := KC6.belowW hbP1
    have KU1 := KU6.belowW hbP1
    have HL1 := Lib.hid (Rd.below HL6.out hbP1)
    rw [hs1]
    clear hWr1 hbP1 hs1
    obtain ⟨Cap1, hCap1⟩ : ∃ Cap : Nat → Prop, ∀ k, Cap k ↔ k < w6.heap.size := ⟨fun k => _, fun k => Iff.rfl⟩
    have hC1 : ∀ k, Cap1 k → k < Wr1.heap.size := fun k hk => by have := (hCap1 k).1 hk; have := HZr1.out.size; omega
    have hcl1 : Wr1.cell? ⟨g, 0, none⟩ = some (.slice A4 l.length c4) := KB1.cell.1 0
    have hsq1 := fall1_seq2 (g + 1) g _ l c hl3 w6 Wr1 HZr1.out Cap1 (fun k hk => (hCap1 k).2 hk) hC1 ((hCap1 _).2 (by omega)) ((hCap1 _).2 hgz) hcl1 KC1 HRL.out
    have hG01 : ∀ k, (fun k => k = s1) k → k < Wr1.heap.size ∧ ¬ Cap1 k := fun k hk => by
      have hk' : k = s1 := hk
      exact ⟨by omega, fun h => by have := (hCap1 k).1 h; omega⟩
    refine ends_mid (s := s1) (N := N) (L := Pl.items l c) ?range1 ?after1
    case range1 =>
      refine range_seq2 rfl heg hsq1 (fun _ => rfl) hC1 (fun G pre W => LI s1 Wr1 G pre W ∧ pre.length ≤ N) (fun co G pre W => co = .exit 2 ∧ LI s1 Wr1 G pre W ∧ pre.length = N + 1) (fun G pre A B h hs => ⟨li_stable hsl1 G pre A B h.1 hs, h.2⟩) (fun co G pre A B h hs => ⟨h.1, li_stable hsl1 G pre A B h.2.1 hs, h.2.2⟩) (fun k => k = s1) hG01
        ⟨⟨Moves.refl _ _, rfl, ⟨_, KS1, fun k hk => by simp [Value.ownBlock] at hk, by simpa using Kd.R_nil kItem 36 Wr1 Wr1.heap.size _⟩⟩, Nat.zero_le _⟩ ?round ?done ?stop
      case done =>
        rintro G xs W hS ⟨hI, hlen⟩ hne hD
        obtain ⟨v1, ho, _, hr⟩ := hI.o
        refine ⟨.inl rfl, rfl, hD, hI.bel, v1, ho, ?_⟩
        have := Own.rd (Kd.R_N (Kd.R_mono hr (fun k hk => hk.1) : kItem.R 36 W Wr1.heap.size (fun k => Wr1.heap.size ≤ k) v1 _))
        rw [hS] at this
        rw [List.take_of_length_le (by rw [← hS, List.length_map]; omega)]
        exact this
      case stop =>
        rintro G co pre W ⟨rest, hSp⟩ ⟨rfl, hI, hlen⟩ hne hD
        obtain ⟨v1, ho, _, hr⟩ := hI.o
        refine wpIn_exit ⟨.inr rfl, rfl, hD, hI.bel, v1, ho, ?_⟩
        have := Own.rd (Kd.R_N (Kd.R_mono hr (fun k hk => hk.1) : kItem.R 36 W Wr1.heap.size (fun k => Wr1.heap.size ≤ k) v1 _))
        rw [← hSp, List.take_left' (by rw [List.length_map]; exact hlen)]
        exact this
      case round =>
        rintro lo G pre x W hl1 hl2 hG ⟨hI, hpn⟩ hG2 hH hP
        dsimp only [ItemX.encs]
        gi_wp2
        refine ⟨Moves.of_below (below_alloc (Below.refl _ _) _), fun W2 _ o2 ho2 _ => ?_⟩
        have hg12 : (W.alloc (.cells #[.bool x.it.1, .slice x.A1 x.it.2.1.length x.c1, .slice x.A2 x.it.2.2.1.length x.c2, .int .i64 x.it.2.2.2.1, .int .i64 x.it.2.2.2.2] 36)).grownBy W2 (some lo) := by rw [ho2]; exact grownBy_putObj' _ _ _
        clear ho2
        have hs12 : W.heap.size + 1 ≤ W2.heap.size := by have := hg12.size; simpa using this
        have KX := (Blk.new W #[.bool x.it.1, .slice x.A1 x.it.2.1.length x.c1, .slice x.A2 x.it.2.2.1.length x.c2, .int .i64 x.it.2.2.2.1, .int .i64 x.it.2.2.2.2] 36).grown hg12 (by simp; omega)
        have hmv := hI.bel
        obtain ⟨v1, ho, hv1G, hr⟩ := hI.o
        have ko2 := (ho.alloc (.cells #[.bool x.it.1, .slice x.A1 x.it.2.1.length x.c1, .slice x.A2 x.it.2.2.1.length x.c2, .int .i64 x.it.2.2.2.1, .int .i64 x.it.2.2.2.2] 36)).grown hg12 (by simp; omega)
        have kb2 : Blk W2 u #[.int .u8 (N : Int)] 5 := ((⟨(hmv.block _ (by omega) (by omega)).trans KU1.out⟩ : Blk W u _ _).alloc _).grown hg12 (by simp; omega)
        have hr2 := Kd.R_grown (Kd.R_below hr (below_alloc (Below.refl _ _) (.cells #[.bool x.it.1, .slice x.A1 x.it.2.1.length x.c1, .slice x.A2 x.it.2.2.1.length x.c2, .int .i64 x.it.2.2.2.1, .int .i64 x.it.2.2.2.2] 36))) hg12 (fun k hk he => by
          injection he with he
          subst he
          rcases hk.2 with h | h
          · exact (hG _ h).2.2.1 rfl
          · exact (hP _ h).1 rfl)
        obtain ⟨⟨restL, hL⟩, hx1, hx2⟩ := hG2
        have hO1 := ownB_ok (ok' := fun k => ItemHand x k) (Kd.R_grown1 (Kd.R_below hx1 (below_alloc (Below.refl _ _) (.cells #[.bool x.it.1, .slice x.A1 x.it.2.1.length x.c1, .slice x.A2 x.it.2.2.1.length x.c2, .int .i64 x.it.2.2.2.1, .int .i64 x.it.2.2.2.2] 36))) rfl hg12 (fun he => (hH lo (.inl he)).2.1 rfl)) (fun k hk => .inl hk.symm)
        have hO2 := ownB_ok (ok' := fun k => ItemHand x k) (Kd.R_grown1 (Kd.R_below hx2 (below_alloc (Below.refl _ _) (.cells #[.bool x.it.1, .slice x.A1 x.it.2.1.length x.c1, .slice x.A2 x.it.2.2.1.length x.c2, .int .i64 x.it.2.2.2.1, .int .i64 x.it.2.2.2.2] 36))) rfl hg12 (fun he => (hH lo (.inr he)).2.1 rfl)) (fun k hk => .inr hk.symm)
        have hM : kItem.M W2 Wr1.heap.size (fun k => ItemHand x k) x.it [.bool x.it.1, .slice x.A1 x.it.2.1.length x.c1, .slice x.A2 x.it.2.2.1.length x.c2, .int .i64 x.it.2.2.2.1, .int .i64 x.it.2.2.2.2] := item_M hO1 hO2
        have hhw : ∀ k, ItemHand x k → Wr1.heap.size ≤ k := fun k hk => by
          rcases hk with hk | hk
          · exact hx1.1 k hk.symm
          · exact hx2.1 k hk.symm
        have hlm : (pre.map ItemX.it).length = pre.length := by simp
        obtain ⟨A1, c1, hv1⟩ := Kd.R_slice hr2
        subst hv1
        simp only [hlm] at ko2 hr2 hv1G hr
        have hr3 : kItem.R 36 W2 Wr1.heap.size (fun k => Wr1.heap.size ≤ k ∧ (G k ∨ (∃ z ∈ pre ++ [x], ItemHand z k) ∨ W2.heap.size ≤ k)) (.slice A1 pre.length c1) (pre.map ItemX.it) := Kd.R_mono hr2 (fun k hk => ⟨hk.1, hk.2.elim .inl (fun ⟨z, hz, h⟩ => .inr (.inl ⟨z, List.mem_append.2 (.inl hz), h⟩))⟩)
        have hvlow : ∀ k, (Value.slice A1 pre.length c1).ownBlock = some k → Wr1.heap.size ≤ k := fun k hk => (hr3.1 k hk).1
        have hQ : ∀ k, ItemHand x k → (Wr1.heap.size ≤ k ∧ (G k ∨ (∃ z ∈ pre ++ [x], ItemHand z k) ∨ W2.heap.size ≤ k)) ∧ some k ≠ (Value.slice A1 pre.length c1).ownBlock := fun k hk => ⟨⟨hhw k hk, .inr (.inl ⟨x, by simp, hk⟩)⟩, fun he => (hH k hk).1 (hv1G k he.symm)⟩
        have hMw : ∀ k, G k → k < W2.heap.size := fun k hk => by have := (hG k hk).1; omega
        have hmv2 : Moves (fun k => k = s1) Wr1 W2 := (hmv.trans (Moves.of_below (G := fun _ => False) (below_alloc (Below.refl _ _) _)) (fun _ _ h => h.elim)).trans (Moves.grown hg12 (G := fun k => k = lo) (fun k he => by injection he with he; exact he.symm)) (fun k hk h => by
          have h' : k = lo := h
          omega)
        obtain ⟨c0, c0f⟩ := kb2.cell
        obtain ⟨c4, c4f⟩ := ko2.cell
        obtain ⟨cx, cxf⟩ := KX.cell
        have hne4 : some s1 ≠ (Value.slice A1 pre.length c1).ownBlock := fun he => by
          have := hvlow _ he.symm
          omega
        have hne0 : some u ≠ (Value.slice A1 pre.length c1).ownBlock := fun he => by
          have := hvlow _ he.symm
          omega
        have HHW := Lib.hid hhw
        have HI := Lib.hid hI
        have HMV2 := Lib.hid hmv2
        have hus : s1 ≠ u := by omega
        clear hI hmv hmv2 hr hr2 hO1 hO2 hx1 hx2 hL hhw
        rcases Nat.lt_or_ge pre.length N with hcase | hcase
        · have hgt : decide ((N : Int) < (pre.length : Int) + 1) = false := decide_eq_false (by omega)
          gi_wp2_with (gi_at_builtin; refine appendIn kItem (W := W2) Wr1.heap.size rfl (.tmp 35) (.tmp 37) 29 36 (.agg #[.bool false, .slice none 0 0, .slice none 0 0, .int .i64 0, .int .i64 0]) 72 rfl Try.underlying29 infoItem5 rfl (by decide) (by omega) _ (pre.map ItemX.it) x.it [.bool x.it.1, .slice x.A1 x.it.2.1.length x.c1, .slice x.A2 x.it.2.2.1.length x.c2, .int .i64 x.it.2.2.2.1, .int .i64 x.it.2.2.2.2] (fun k => Wr1.heap.size ≤ k ∧ (G k ∨ (∃ z ∈ pre ++ [x], ItemHand z k) ∨ W2.heap.size ≤ k)) (fun k => ItemHand x k) rfl rfl hM ?aQ ?aF hr3 ?aS ?aL ?_; (case aQ => exact hQ); (case aF => exact fun j hj => ⟨by omega, .inr (.inr hj)⟩); (case aS => omega); (case aL => simp; omega); intro v9 w9 hr9 hg9 hat9; obtain ⟨A9, c9, hv9⟩ := Kd.R_slice hr9; rw [show (pre.map ItemX.it ++ [x.it]).length = pre.length + 1 by simp] at hv9; subst hv9; have ko9 := (ko2.grown hg9 hne4); obtain ⟨c9', c9f⟩ := ko9.cell; obtain ⟨c0', c0f'⟩ := (kb2.grown hg9 hne0).cell; have hs29 := hg9.size)
          have hs9 : (w9.setCell ⟨s1, 0, none⟩ (.slice A9 (pre.length + 1) c9)).heap.size = w9.heap.size := by simp
          have hG9 : Grows G (fun k => G k ∨ (W.heap.size ≤ k ∧ k < w9.heap.size)) W (w9.setCell ⟨s1, 0, none⟩ (.slice A9 (pre.length + 1) c9)) := fun k hk => by
            rw [hs9]
            rcases hk with h | h
            · exact ⟨by have := hMw k h; omega, .inl h⟩
            · exact ⟨h.2, .inr h.1⟩
          have hr10 := Kd.R_far (p := ⟨s1, 0, none⟩) hr9 (fun k hk => by have := hk.1; show k ≠ s1; omega) (.slice A9 (pre.length + 1) c9)
          have hM9 : Moves G W2 (w9.setCell ⟨s1, 0, none⟩ (.slice A9 (pre.length + 1) c9)) := (Moves.grown hg9 (fun k he => hv1G k he)).trans (Moves.setCell w9 ⟨s1, 0, none⟩ _ (G := G) HI.out.g) (fun _ _ h => h)
          have hM10 : Moves (fun k => k = s1) Wr1 (w9.setCell ⟨s1, 0, none⟩ (.slice A9 (pre.length + 1) c9)) := (HMV2.out.trans (Moves.grown hg9 (G := fun k => Wr1.heap.size ≤ k) (fun k he => hvlow k he)) (fun k hk h => by
            have h' : Wr1.heap.size ≤ k := h
            omega)).trans (Moves.setCell w9 ⟨s1, 0, none⟩ _ (G := fun k => k = s1) rfl) (fun _ _ h => h)
          have hOwn9 : ∀ k, (Value.slice A9 (pre.length + 1) c9).ownBlock = some k → (G k ∨ (W.heap.size ≤ k ∧ k < w9.heap.size)) := fun k hk => by
            have hlt := Kd.N_lt (Kd.R_N hr9) k hk
            rcases hat9 with h | ⟨b', h, h'⟩
            · exact .inl (hv1G k (h.symm.trans hk))
            · have h2 := hk.symm.trans h
              injection h2 with h2
              exact .inr ⟨by omega, hlt⟩
          have hR9 : kItem.R 36 (w9.setCell ⟨s1, 0, none⟩ (.slice A9 (pre.length + 1) c9)) Wr1.heap.size (fun k => Wr1.heap.size ≤ k ∧ ((G k ∨ (W.heap.size ≤ k ∧ k < w9.heap.size)) ∨ ∃ z ∈ pre ++ [x], ItemHand z k)) (.slice A9 (pre.length + 1) c9) ((pre ++ [x]).map ItemX.it) := by
            rw [List.map_append, List.map_cons, List.map_nil]
            refine Kd.R_mono (Kd.R_bound hr10) (fun k hk => ⟨hk.1.1, ?_⟩)
            have hlt := hk.2.2.1
            rw [hs9] at hlt
            rcases hk.1.2 with h | h | h
            · exact .inl (.inl h)
            · exact .inr h
            · exact .inl (.inr ⟨by omega, hlt⟩)
          refine ⟨fun k => G k ∨ (W.heap.size ≤ k ∧ k < w9.heap.size), hM9, hG9, ⟨hM10, .inl HI.out.g, ⟨_, ko9.set (cs' := #[.slice A9 (pre.length + 1) c9]) 0 _ rfl, hOwn9, hR9⟩⟩, by simp; omega⟩
        · have hgt : decide ((N : Int) < (pre.length : Int) + 1) = true := decide_eq_true (by omega)
          gi_wp2_with (gi_at_builtin; refine appendIn kItem (W := W2) Wr1.heap.size rfl (.tmp 35) (.tmp 37) 29 36 (.agg #[.bool false, .slice none 0 0, .slice none 0 0, .int .i64 0, .int .i64 0]) 72 rfl Try.underlying29 infoItem5 rfl (by decide) (by omega) _ (pre.map ItemX.it) x.it [.bool x.it.1, .slice x.A1 x.it.2.1.length x.c1, .slice x.A2 x.it.2.2.1.length x.c2, .int .i64 x.it.2.2.2.1, .int .i64 x.it.2.2.2.2] (fun k => Wr1.heap.size ≤ k ∧ (G k ∨ (∃ z ∈ pre ++ [x], ItemHand z k) ∨ W2.heap.size ≤ k)) (fun k => ItemHand x k) rfl rfl hM ?aQ ?aF hr3 ?aS ?aL ?_; (case aQ => exact hQ); (case aF => exact fun j hj => ⟨by omega, .inr (.inr hj)⟩); (case aS => omega); (case aL => simp; omega); intro v9 w9 hr9 hg9 hat9; obtain ⟨A9, c9, hv9⟩ := Kd.R_slice hr9; rw [show (pre.map ItemX.it ++ [x.it]).length = pre.length + 1 by simp] at hv9; subst hv9; have ko9 := (ko2.grown hg9 hne4); obtain ⟨c9', c9f⟩ := ko9.cell; obtain ⟨c0', c0f'⟩ := (kb2.grown hg9 hne0).cell; have hs29 := hg9.size)
          have hs9 : (w9.setCell ⟨s1, 0, none⟩ (.slice A9 (pre.length + 1) c9)).heap.size = w9.heap.size := by simp
          have hG9 : Grows G (fun k => G k ∨ (W.heap.size ≤ k ∧ k < w9.heap.size)) W (w9.setCell ⟨s1, 0, none⟩ (.slice A9 (pre.length + 1) c9)) := fun k hk => by
            rw [hs9]
            rcases hk with h | h
            · exact ⟨by have := hMw k h; omega, .inl h⟩
            · exact ⟨h.2, .inr h.1⟩
          have hr10 := Kd.R_far (p := ⟨s1, 0, none⟩) hr9 (fun k hk => by have := hk.1; show k ≠ s1; omega) (.slice A9 (pre.length + 1) c9)
          have hM9 : Moves G W2 (w9.setCell ⟨s1, 0, none⟩ (.slice A9 (pre.length + 1) c9)) := (Moves.grown hg9 (fun k he => hv1G k he)).trans (Moves.setCell w9 ⟨s1, 0, none⟩ _ (G := G) HI.out.g) (fun _ _ h => h)
          have hM10 : Moves (fun k => k = s1) Wr1 (w9.setCell ⟨s1, 0, none⟩ (.slice A9 (pre.length + 1) c9)) := (HMV2.out.trans (Moves.grown hg9 (G := fun k => Wr1.heap.size ≤ k) (fun k he => hvlow k he)) (fun k hk h => by
            have h' : Wr1.heap.size ≤ k := h
            omega)).trans (Moves.setCell w9 ⟨s1, 0, none⟩ _ (G := fun k => k = s1) rfl) (fun _ _ h => h)
          have hOwn9 : ∀ k, (Value.slice A9 (pre.length + 1) c9).ownBlock = some k → (G k ∨ (W.heap.size ≤ k ∧ k < w9.heap.size)) := fun k hk => by
            have hlt := Kd.N_lt (Kd.R_N hr9) k hk
            rcases hat9 with h | ⟨b', h, h'⟩
            · exact .inl (hv1G k (h.symm.trans hk))
            · have h2 := hk.symm.trans h
              injection h2 with h2
              exact .inr ⟨by omega, hlt⟩
          have hR9 : kItem.R 36 (w9.setCell ⟨s1, 0, none⟩ (.slice A9 (pre.length + 1) c9)) Wr1.heap.size (fun k => Wr1.heap.size ≤ k ∧ ((G k ∨ (W.heap.size ≤ k ∧ k < w9.heap.size)) ∨ ∃ z ∈ pre ++ [x], ItemHand z k)) (.slice A9 (pre.length + 1) c9) ((pre ++ [x]).map ItemX.it) := by
            rw [List.map_append, List.map_cons, List.map_nil]
            refine Kd.R_mono (Kd.R_bound hr10) (fun k hk => ⟨hk.1.1, ?_⟩)
            have hlt := hk.2.2.1
            rw [hs9] at hlt
            rcases hk.1.2 with h | h | h
            · exact .inl (.inl h)
            · exact .inr h
            · exact .inl (.inr ⟨by omega, hlt⟩)
          refine ⟨fun k => G k ∨ (W.heap.size ≤ k ∧ k < w9.heap.size), hM9, hG9, rfl, ⟨hM10, .inl HI.out.g, ⟨_, ko9.set (cs' := #[.slice A9 (pre.length + 1) c9]) 0 _ rfl, hOwn9, hR9⟩⟩, by simp; omega⟩
    case after1 =>
      rintro e ac Wx1 ⟨he, rfl, hDx1, hmx1, v1, hoS1, hrS1⟩
      have HZx1 := Lib.hid (HZr1.out.trans (hmx1.below HZr1.out.size (fun k hk => by have h' : k = s1 := hk; omega)))
      have HBx1 := Lib.hid (bthen HB6.out HZx1.out)
      have KUx1 := KU6.belowW HZx1.out
      obtain ⟨Av1, cv1, hvv1⟩ := Kd.V_slice hrS1
      subst hvv1
      have hoS1' : Wx1.cell? ⟨s1, 0, none⟩ = some (.slice Av1 T.length cv1) := by rw [← hHT.out]; exact hoS1.cell.1 0
      have HSX1 := Lib.hid (Kd.V_drew (show Rd kItem Wx1 (.slice Av1 T.length cv1) T by rw [hHT.out] at hrS1; exact hrS1) : Rd kItem Wx1.drew _ _)
      have HVX1 := Lib.hid (Kd.V_drew (Rd.below HVM.out HZx1.out) : Rd kItem Wx1.drew _ _)
      have hsx1 : s1 < Wx1.drew.heap.size := hoS1.lt
      have hux1 : u < Wx1.drew.heap.size := KUx1.lt
      have KHx1 := Lib.hid (show Wx1.drew.cell? ⟨s1, 0, none⟩ = some (.slice Av1 T.length cv1) ∧ Wx1.drew.cell? ⟨u, 0, none⟩ = some (.int .u8 (N : Int)) from ⟨hoS1', KUx1.drew.cell.1 0⟩)
      have hDd1 : Wr1.heap.size < Wx1.drew.heap.size := (Array.getElem?_eq_some_iff.1 hDx1).1
      clear hrS1 hoS1 hoS1'
      rcases he with rfl | rfl
      all_goals
        go_wp2_with fail
        first | (have hmE : ¬ (N : Int) + 1 < ((Pl.items l c).length : Int) := by omega) | skip
        go_region_held3 (fun W => W.cell? ⟨s1, 0, none⟩ = some (.slice Av1 T.length cv1) ∧ W.cell? ⟨u, 0, none⟩ = some (.int .u8 (N : Int))) (first | exact KHx1.out | exact ⟨(hbS1.cell (p := ⟨s1, 0, none⟩) hsx1).trans KHx1.out.1, (hbS1.cell (p := ⟨u, 0, none⟩) hux1).trans KHx1.out.2⟩)
          (first | (go_at_call 13; refine (sameAll_any _ _ T _ HSX1.out HVX1.out).mono ?_; rintro e wS1 ⟨rfl, hbS1⟩))
        all_goals
          have HZS1 := Lib.hid (bthen HZx1.out.drew hbS1)
          have HBS1 := Lib.hid (bthen HBx1.out.drew hbS1)
          have hDS1 : wS1.heap[Wr1.heap.size]? = some (.deferred (some [])) := (hbS1.block _ hDd1).trans hDx1
          have KBS1 := KB6.belowW HZS1.out
          have KCS1 := KC6.belowW HZS1.out
          have KUS1 := KU6.belowW HZS1.out
          have HLS1 := Lib.hid (Rd.below HL6.out HZS1.out)
          clear hbS1 KHx1 HSX1 HVX1 HBx1 HZx1
          go_wp2_with fail
          rw [rounds_succ]
          go_wp2_with fail
          refine wp_at fun Wr2 hWr2 => ?_
          obtain ⟨s2, hs2⟩ : ∃ s, wS1.heap.size = s := ⟨_, rfl⟩
          have hbP2 : Below wS1.heap.size wS1 Wr2 := by rw [← hWr2]; exact below_alloc (Below.refl _ _) _
          have KS2 : Blk Wr2 s2 #[.slice none 0 0] 29 := by rw [← hWr2, ← hs2]; exact Blk.new _ _ _
          have hsl2 : s2 < Wr2.heap.size := KS2.lt
          have hsg2 : g + 1 < s2 := by rw [← hs2]; exact KCS1.lt
          have hsu2 : u < s2 := by rw [← hs2]; exact KUS1.lt
          have hws2 : w.heap.size ≤ s2 := by rw [← hs2]; exact HBS1.out.size
          have HBr2 := Lib.hid (bthen HBS1.out hbP2)
          have HZr2 := Lib.hid (bthen HZS1.out hbP2)
          have hzs2 : w6.heap.size ≤ s2 := by rw [← hs2]; exact HZS1.out.size
          have KB2 := KBS1.belowW hbP2
          have KC2 := KCS1.belowW hbP2
          have KU2 := KUS1.belowW hbP2
          have HL2 := Lib.hid (Rd.below HLS1.out hbP2)
          have hDlt2 : Wr1.heap.size < s2 := by rw [← hs2]; exact (Array.getElem?_eq_some_iff.1 hDS1).1
          have hDR2 : Wr2.heap[Wr1.heap.size]? = some (.deferred (some [])) := (hbP2.block _ ((Array.getElem?_eq_some_iff.1 hDS1).1)).trans hDS1
          rw [hs2]
          clear hWr2 hbP2 hs2
          obtain ⟨Cap2, hCap2⟩ : ∃ Cap : Nat → Prop, ∀ k, Cap k ↔ k < w6.heap.size := ⟨fun k => _, fun k => Iff.rfl⟩
          have hC2 : ∀ k, Cap2 k → k < Wr2.heap.size := fun k hk => by have := (hCap2 k).1 hk; have := HZr2.out.size; omega
          have hcl2 : Wr2.cell? ⟨g, 0, none⟩ = some (.slice A4 l.length c4) := KB2.cell.1 0
          have hsq2 := fall1_seq2 (g + 1) g _ l c hl3 w6 Wr2 HZr2.out Cap2 (fun k hk => (hCap2 k).2 hk) hC2 ((hCap2 _).2 (by omega)) ((hCap2 _).2 hgz) hcl2 KC2 HRL.out
          have hG02 : ∀ k, (fun k => k = s2) k → k < Wr2.heap.size ∧ ¬ Cap2 k := fun k hk => by
            have hk' : k = s2 := hk
            exact ⟨by omega, fun h => by have := (hCap2 k).1 h; omega⟩
          refine ends_mid (s := s2) (N := N) (L := Pl.items l c) ?range2 ?after2
          case range2 =>
            refine range_seq2 rfl heg hsq2 (fun _ => rfl) hC2 (fun G pre W => LI s2 Wr2 G pre W ∧ pre.length ≤ N) (fun co G pre W => co = .exit 2 ∧ LI s2 Wr2 G pre W ∧ pre.length = N + 1) (fun G pre A B h hs => ⟨li_stable hsl2 G pre A B h.1 hs, h.2⟩) (fun co G pre A B h hs => ⟨h.1, li_stable hsl2 G pre A B h.2.1 hs, h.2.2⟩) (fun k => k = s2) hG02
              ⟨⟨Moves.refl _ _, rfl, ⟨_, KS2, fun k hk => by simp [Value.ownBlock] at hk, by simpa using Kd.R_nil kItem 36 Wr2 Wr2.heap.size _⟩⟩, Nat.zero_le _⟩ ?round ?done ?stop
            case done =>
              rintro G xs W hS ⟨hI, hlen⟩ hne hD
              obtain ⟨v1, ho, _, hr⟩ := hI.o
              refine ⟨.inl rfl, rfl, hD, hI.bel, v1, ho, ?_⟩
              have := Own.rd (Kd.R_N (Kd.R_mono hr (fun k hk => hk.1) : kItem.R 36 W Wr2.heap.size (fun k => Wr2.heap.size ≤ k) v1 _))
              rw [hS] at this
              rw [List.take_of_length_le (by rw [← hS, List.length_map]; omega)]
              exact this
            case stop =>
              rintro G co pre W ⟨rest, hSp⟩ ⟨rfl, hI, hlen⟩ hne hD
              obtain ⟨v1, ho, _, hr⟩ := hI.o
              refine wpIn_exit ⟨.inr rfl, rfl, hD, hI.bel, v1, ho, ?_⟩
              have := Own.rd (Kd.R_N (Kd.R_mono hr (fun k hk => hk.1) : kItem.R 36 W Wr2.heap.size (fun k => Wr2.heap.size ≤ k) v1 _))
              rw [← hSp, List.take_left' (by rw [List.length_map]; exact hlen)]
              exact this
            case round =>
              rintro lo G pre x W hl1 hl2 hG ⟨hI, hpn⟩ hG2 hH hP
              dsimp only [ItemX.encs]
              gi_wp2
              refine ⟨Moves.of_below (below_alloc (Below.refl _ _) _), fun W2 _ o2 ho2 _ => ?_⟩
              have hg12 : (W.alloc (.cells #[.bool x.it.1, .slice x.A1 x.it.2.1.length x.c1, .slice x.A2 x.it.2.2.1.length x.c2, .int .i64 x.it.2.2.2.1, .int .i64 x.it.2.2.2.2] 36)).grownBy W2 (some lo) := by rw [ho2]; exact grownBy_putObj' _ _ _
              clear ho2
              have hs12 : W.heap.size + 1 ≤ W2.heap.size := by have := hg12.size; simpa using this
              have KX := (Blk.new W #[.bool x.it.1, .slice x.A1 x.it.2.1.length x.c1, .slice x.A2 x.it.2.2.1.length x.c2, .int .i64 x.it.2.2.2.1, .int .i64 x.it.2.2.2.2] 36).grown hg12 (by simp; omega)
              have hmv := hI.bel
              obtain ⟨v1, ho, hv1G, hr⟩ := hI.o
              have ko2 := (ho.alloc (.cells #[.bool x.it.1, .slice x.A1 x.it.2.1.length x.c1, .slice x.A2 x.it.2.2.1.length x.c2, .int .i64 x.it.2.2.2.1, .int .i64 x.it.2.2.2.2] 36)).grown hg12 (by simp; omega)
              have kb2 : Blk W2 u #[.int .u8 (N : Int)] 5 := ((⟨(hmv.block _ (by omega) (by omega)).trans KU2.out⟩ : Blk W u _ _).alloc _).grown hg12 (by simp; omega)
              have hr2 := Kd.R_grown (Kd.R_below hr (below_alloc (Below.refl _ _) (.cells #[.bool x.it.1, .slice x.A1 x.it.2.1.length x.c1, .slice x.A2 x.it.2.2.1.length x.c2, .int .i64 x.it.2.2.2.1, .int .i64 x.it.2.2.2.2] 36))) hg12 (fun k hk he => by
                injection he with he
                subst he
                rcases hk.2 with h | h
                · exact (hG _ h).2.2.1 rfl
                · exact (hP _ h).1 rfl)
              obtain ⟨⟨restL, hL⟩, hx1, hx2⟩ := hG2
              have hO1 := ownB_ok (ok' := fun k => ItemHand x k) (Kd.R_grown1 (Kd.R_below hx1 (below_alloc (Below.refl _ _) (.cells #[.bool x.it.1, .slice x.A1 x.it.2.1.length x.c1, .slice x.A2 x.it.2.2.1.length x.c2, .int .i64 x.it.2.2.2.1, .int .i64 x.it.2.2.2.2] 36))) rfl hg12 (fun he => (hH lo (.inl he)).2.1 rfl)) (fun k hk => .inl hk.symm)
              have hO2 := ownB_ok (ok' := fun k => ItemHand x k) (Kd.R_grown1 (Kd.R_below hx2 (below_alloc (Below.refl _ _) (.cells #[.bool x.it.1, .slice x.A1 x.it.2.1.length x.c1, .slice x.A2 x.it.2.2.1.length x.c2, .int .i64 x.it.2.2.2.1, .int .i64 x.it.2.2.2.2] 36))) rfl hg12 (fun he => (hH lo (.inr he)).2.1 rfl)) (fun k hk => .inr hk.symm)
              have hM : kItem.M W2 Wr2.heap.size (fun k => ItemHand x k) x.it [.bool x.it.1, .slice x.A1 x.it.2.1.length x.c1, .slice x.A2 x.it.2.2.1.length x.c2, .int .i64 x.it.2.2.2.1, .int .i64 x.it.2.2.2.2] := item_M hO1 hO2
              have hhw : ∀ k, ItemHand x k → Wr2.heap.size ≤ k := fun k hk => by
                rcases hk with hk | hk
                · exact hx1.1 k hk.symm
                · exact hx2.1 k hk.symm
              have hlm : (pre.map ItemX.it).length = pre.length := by simp
              obtain ⟨A1, c1, hv1⟩ := Kd.R_slice hr2
              subst hv1
              simp only [hlm] at ko2 hr2 hv1G hr
              have hr3 : kItem.R 36 W2 Wr2.heap.size (fun k => Wr2.heap.size ≤ k ∧ (G k ∨ (∃ z ∈ pre ++ [x], ItemHand z k) ∨ W2.heap.size ≤ k)) (.slice A1 pre.length c1) (pre.map ItemX.it) := Kd.R_mono hr2 (fun k hk => ⟨hk.1, hk.2.elim .inl (fun ⟨z, hz, h⟩ => .inr (.inl ⟨z, List.mem_append.2 (.inl hz), h⟩))⟩)
              have hvlow : ∀ k, (Value.slice A1 pre.length c1).ownBlock = some k → Wr2.heap.size ≤ k := fun k hk => (hr3.1 k hk).1
              have hQ : ∀ k, ItemHand x k → (Wr2.heap.size ≤ k ∧ (G k ∨ (∃ z ∈ pre ++ [x], ItemHand z k) ∨ W2.heap.size ≤ k)) ∧ some k ≠ (Value.slice A1 pre.length c1).ownBlock := fun k hk => ⟨⟨hhw k hk, .inr (.inl ⟨x, by simp, hk⟩)⟩, fun he => (hH k hk).1 (hv1G k he.symm)⟩
              have hMw : ∀ k, G k → k < W2.heap.size := fun k hk => by have := (hG k hk).1; omega
              have hmv2 : Moves (fun k => k = s2) Wr2 W2 := (hmv.trans (Moves.of_below (G := fun _ => False) (below_alloc (Below.refl _ _) _)) (fun _ _ h => h.elim)).trans (Moves.grown hg12 (G := fun k => k = lo) (fun k he => by injection he with he; exact he.symm)) (fun k hk h => by
                have h' : k = lo := h
                omega)
              obtain ⟨c0, c0f⟩ := kb2.cell
              obtain ⟨c4, c4f⟩ := ko2.cell
              obtain ⟨cx, cxf⟩ := KX.cell
              have hne4 : some s2 ≠ (Value.slice A1 pre.length c1).ownBlock := fun he => by
                have := hvlow _ he.symm
                omega
              have hne0 : some u ≠ (Value.slice A1 pre.length c1).ownBlock := fun he => by
                have := hvlow _ he.symm
                omega
              have HHW := Lib.hid hhw
              have HI := Lib.hid hI
              have HMV2 := Lib.hid hmv2
              have hus : s2 ≠ u := by omega
              clear hI hmv hmv2 hr hr2 hO1 hO2 hx1 hx2 hL hhw
              rcases Nat.lt_or_ge pre.length N with hcase | hcase
              · have hgt : decide ((N : Int) < (pre.length : Int) + 1) = false := decide_eq_false (by omega)
                gi_wp2_with (gi_at_builtin; refine appendIn kItem (W := W2) Wr2.heap.size rfl (.tmp 35) (.tmp 37) 29 36 (.agg #[.bool false, .slice none 0 0, .slice none 0 0, .int .i64 0, .int .i64 0]) 72 rfl Try.underlying29 infoItem5 rfl (by decide) (by omega) _ (pre.map ItemX.it) x.it [.bool x.it.1, .slice x.A1 x.it.2.1.length x.c1, .slice x.A2 x.it.2.2.1.length x.c2, .int .i64 x.it.2.2.2.1, .int .i64 x.it.2.2.2.2] (fun k => Wr2.heap.size ≤ k ∧ (G k ∨ (∃ z ∈ pre ++ [x], ItemHand z k) ∨ W2.heap.size ≤ k)) (fun k => ItemHand x k) rfl rfl hM ?aQ ?aF hr3 ?aS ?aL ?_; (case aQ => exact hQ); (case aF => exact fun j hj => ⟨by omega, .inr (.inr hj)⟩); (case aS => omega); (case aL => simp; omega); intro v9 w9 hr9 hg9 hat9; obtain ⟨A9, c9, hv9⟩ := Kd.R_slice hr9; rw [show (pre.map ItemX.it ++ [x.it]).length = pre.length + 1 by simp] at hv9; subst hv9; have ko9 := (ko2.grown hg9 hne4); obtain ⟨c9', c9f⟩ := ko9.cell; obtain ⟨c0', c0f'⟩ := (kb2.grown hg9 hne0).cell; have hs29 := hg9.size)
                have hs9 : (w9.setCell ⟨s2, 0, none⟩ (.slice A9 (pre.length + 1) c9)).heap.size = w9.heap.size := by simp
                have hG9 : Grows G (fun k => G k ∨ (W.heap.size ≤ k ∧ k < w9.heap.size)) W (w9.setCell ⟨s2, 0, none⟩ (.slice A9 (pre.length + 1) c9)) := fun k hk => by
                  rw [hs9]
                  rcases hk with h | h
                  · exact ⟨by have := hMw k h; omega, .inl h⟩
                  · exact ⟨h.2, .inr h.1⟩
                have hr10 := Kd.R_far (p := ⟨s2, 0, none⟩) hr9 (fun k hk => by have := hk.1; show k ≠ s2; omega) (.slice A9 (pre.length + 1) c9)
                have hM9 : Moves G W2 (w9.setCell ⟨s2, 0, none⟩ (.slice A9 (pre.length + 1) c9)) := (Moves.grown hg9 (fun k he => hv1G k he)).trans (Moves.setCell w9 ⟨s2, 0, none⟩ _ (G := G) HI.out.g) (fun _ _ h => h)
                have hM10 : Moves (fun k => k = s2) Wr2 (w9.setCell ⟨s2, 0, none⟩ (.slice A9 (pre.length + 1) c9)) := (HMV2.out.trans (Moves.grown hg9 (G := fun k => Wr2.heap.size ≤ k) (fun k he => hvlow k he)) (fun k hk h => by
                  have h' : Wr2.heap.size ≤ k := h
                  omega)).trans (Moves.setCell w9 ⟨s2, 0, none⟩ _ (G := fun k => k = s2) rfl) (fun _ _ h => h)
                have hOwn9 : ∀ k, (Value.slice A9 (pre.length + 1) c9).ownBlock = some k → (G k ∨ (W.heap.size ≤ k ∧ k < w9.heap.size)) := fun k hk => by
                  have hlt := Kd.N_lt (Kd.R_N hr9) k hk
                  rcases hat9 with h | ⟨b', h, h'⟩
                  · exact .inl (hv1G k (h.symm.trans hk))
                  · have h2 := hk.symm.trans h
                    injection h2 with h2
                    exact .inr ⟨by omega, hlt⟩
                have hR9 : kItem.R 36 (w9.setCell ⟨s2, 0, none⟩ (.slice A9 (pre.length + 1) c9)) Wr2.heap.size (fun k => Wr2.heap.size ≤ k ∧ ((G k ∨ (W.heap.size ≤ k ∧ k < w9.heap.size)) ∨ ∃ z ∈ pre ++ [x], ItemHand z k)) (.slice A9 (pre.length + 1) c9) ((pre ++ [x]).map ItemX.it) := by
                  rw [List.map_append, List.map_cons, List.map_nil]
                  refine Kd.R_mono (Kd.R_bound hr10) (fun k hk => ⟨hk.1.1, ?_⟩)
                  have hlt := hk.2.2.1
                  rw [hs9] at hlt
                  rcases hk.1.2 with h | h | h
                  · exact .inl (.inl h)
                  · exact .inr h
                  · exact .inl (.inr ⟨by omega, hlt⟩)
                refine ⟨fun k => G k ∨ (W.heap.size ≤ k ∧ k < w9.heap.size), hM9, hG9, ⟨hM10, .inl HI.out.g, ⟨_, ko9.set (cs' := #[.slice A9 (pre.length + 1) c9]) 0 _ rfl, hOwn9, hR9⟩⟩, by simp; omega⟩
              · have hgt : decide ((N : Int) < (pre.length : Int) + 1) = true := decide_eq_true (by omega)
                gi_wp2_with (gi_at_builtin; refine appendIn kItem (W := W2) Wr2.heap.size rfl (.tmp 35) (.tmp 37) 29 36 (.agg #[.bool false, .slice none 0 0, .slice none 0 0, .int .i64 0, .int .i64 0]) 72 rfl Try.underlying29 infoItem5 rfl (by decide) (by omega) _ (pre.map ItemX.it) x.it [.bool x.it.1, .slice x.A1 x.it.2.1.length x.c1, .slice x.A2 x.it.2.2.1.length x.c2, .int .i64 x.it.2.2.2.1, .int .i64 x.it.2.2.2.2] (fun k => Wr2.heap.size ≤ k ∧ (G k ∨ (∃ z ∈ pre ++ [x], ItemHand z k) ∨ W2.heap.size ≤ k)) (fun k => ItemHand x k) rfl rfl hM ?aQ ?aF hr3 ?aS ?aL ?_; (case aQ => exact hQ); (case aF => exact fun j hj => ⟨by omega, .inr (.inr hj)⟩); (case aS => omega); (case aL => simp; omega); intro v9 w9 hr9 hg9 hat9; obtain ⟨A9, c9, hv9⟩ := Kd.R_slice hr9; rw [show (pre.map ItemX.it ++ [x.it]).length = pre.length + 1 by simp] at hv9; subst hv9; have ko9 := (ko2.grown hg9 hne4); obtain ⟨c9', c9f⟩ := ko9.cell; obtain ⟨c0', c0f'⟩ := (kb2.grown hg9 hne0).cell; have hs29 := hg9.size)
                have hs9 : (w9.setCell ⟨s2, 0, none⟩ (.slice A9 (pre.length + 1) c9)).heap.size = w9.heap.size := by simp
                have hG9 : Grows G (fun k => G k ∨ (W.heap.size ≤ k ∧ k < w9.heap.size)) W (w9.setCell ⟨s2, 0, none⟩ (.slice A9 (pre.length + 1) c9)) := fun k hk => by
                  rw [hs9]
                  rcases hk with h | h
                  · exact ⟨by have := hMw k h; omega, .inl h⟩
                  · exact ⟨h.2, .inr h.1⟩
                have hr10 := Kd.R_far (p := ⟨s2, 0, none⟩) hr9 (fun k hk => by have := hk.1; show k ≠ s2; omega) (.slice A9 (pre.length + 1) c9)
                have hM9 : Moves G W2 (w9.setCell ⟨s2, 0, none⟩ (.slice A9 (pre.length + 1) c9)) := (Moves.grown hg9 (fun k he => hv1G k he)).trans (Moves.setCell w9 ⟨s2, 0, none⟩ _ (G := G) HI.out.g) (fun _ _ h => h)
                have hM10 : Moves (fun k => k = s2) Wr2 (w9.setCell ⟨s2, 0, none⟩ (.slice A9 (pre.length + 1) c9)) := (HMV2.out.trans (Moves.grown hg9 (G := fun k => Wr2.heap.size ≤ k) (fun k he => hvlow k he)) (fun k hk h => by
                  have h' : Wr2.heap.size ≤ k := h
                  omega)).trans (Moves.setCell w9 ⟨s2, 0, none⟩ _ (G := fun k => k = s2) rfl) (fun _ _ h => h)
                have hOwn9 : ∀ k, (Value.slice A9 (pre.length + 1) c9).ownBlock = some k → (G k ∨ (W.heap.size ≤ k ∧ k < w9.heap.size)) := fun k hk => by
                  have hlt := Kd.N_lt (Kd.R_N hr9) k hk
                  rcases hat9 with h | ⟨b', h, h'⟩
                  · exact .inl (hv1G k (h.symm.trans hk))
                  · have h2 := hk.symm.trans h
                    injection h2 with h2
                    exact .inr ⟨by omega, hlt⟩
                have hR9 : kItem.R 36 (w9.setCell ⟨s2, 0, none⟩ (.slice A9 (pre.length + 1) c9)) Wr2.heap.size (fun k => Wr2.heap.size ≤ k ∧ ((G k ∨ (W.heap.size ≤ k ∧ k < w9.heap.size)) ∨ ∃ z ∈ pre ++ [x], ItemHand z k)) (.slice A9 (pre.length + 1) c9) ((pre ++ [x]).map ItemX.it) := by
                  rw [List.map_append, List.map_cons, List.map_nil]
                  refine Kd.R_mono (Kd.R_bound hr10) (fun k hk => ⟨hk.1.1, ?_⟩)
                  have hlt := hk.2.2.1
                  rw [hs9] at hlt
                  rcases hk.1.2 with h | h | h
                  · exact .inl (.inl h)
                  · exact .inr h
                  · exact .inl (.inr ⟨by omega, hlt⟩)
                refine ⟨fun k => G k ∨ (W.heap.size ≤ k ∧ k < w9.heap.size), hM9, hG9, rfl, ⟨hM10, .inl HI.out.g, ⟨_, ko9.set (cs' := #[.slice A9 (pre.length + 1) c9]) 0 _ rfl, hOwn9, hR9⟩⟩, by simp; omega⟩
          case after2 =>
            rintro e ac Wx2 ⟨he, rfl, hDx2, hmx2, v1, hoS2, hrS2⟩
            have HZx2 := Lib.hid (HZr2.out.trans (hmx2.below HZr2.out.size (fun k hk => by have h' : k = s2 := hk; omega)))
            have HBx2 := Lib.hid (bthen HB6.out HZx2.out)
            have KUx2 := KU6.belowW HZx2.out
            obtain ⟨Av2, cv2, hvv2⟩ := Kd.V_slice hrS2
            subst hvv2
            have hoS2' : Wx2.cell? ⟨s2, 0, none⟩ = some (.slice Av2 T.length cv2) := by rw [← hHT.out]; exact hoS2.cell.1 0
            have HSX2 := Lib.hid (Kd.V_drew (show Rd kItem Wx2 (.slice Av2 T.length cv2) T by rw [hHT.out] at hrS2; exact hrS2) : Rd kItem Wx2.drew _ _)
            have HVX2 := Lib.hid (Kd.V_drew (Rd.below HVM.out HZx2.out) : Rd kItem Wx2.drew _ _)
            have hsx2 : s2 < Wx2.drew.heap.size := hoS2.lt
            have hux2 : u < Wx2.drew.heap.size := KUx2.lt
            have KHx2 := Lib.hid (show Wx2.drew.cell? ⟨s2, 0, none⟩ = some (.slice Av2 T.length cv2) ∧ Wx2.drew.cell? ⟨u, 0, none⟩ = some (.int .u8 (N : Int)) from ⟨hoS2', KUx2.drew.cell.1 0⟩)
            have hDd2 : Wr2.heap.size < Wx2.drew.heap.size := (Array.getElem?_eq_some_iff.1 hDx2).1
            clear hrS2 hoS2 hoS2'
            rcases he with rfl | rfl
            all_goals
              go_wp2_with fail
              first | (have hmE : ¬ (N : Int) + 1 < ((Pl.items l c).length : Int) := by omega) | skip
              go_region_held3 (fun W => W.cell? ⟨s2, 0, none⟩ = some (.slice Av2 T.length cv2) ∧ W.cell? ⟨u, 0, none⟩ = some (.int .u8 (N : Int))) (first | exact KHx2.out | exact ⟨(hbS2.cell (p := ⟨s2, 0, none⟩) hsx2).trans KHx2.out.1, (hbS2.cell (p := ⟨u, 0, none⟩) hux2).trans KHx2.out.2⟩)
                (first | (go_at_call 13; refine (sameAll_any _ _ T _ HSX2.out HVX2.out).mono ?_; rintro e wS2 ⟨rfl, hbS2⟩))
              all_goals
                have HZS2 := Lib.hid (bthen HZx2.out.drew hbS2)
                have HBS2 := Lib.hid (bthen HBx2.out.drew hbS2)
                have hDS2 : wS2.heap[Wr2.heap.size]? = some (.deferred (some [])) := (hbS2.block _ hDd2).trans hDx2
                have hDT : wS2.heap[Wr1.heap.size]? = some (.deferred (some [])) := (hbS2.block _ (by have := hmx2.size; show Wr1.heap.size < Wx2.heap.size; omega)).trans ((hmx2.block _ (by omega) (by omega)).trans hDR2)
                have KBS2 := KB6.belowW HZS2.out
                have KCS2 := KC6.belowW HZS2.out
                have KUS2 := KU6.belowW HZS2.out
                have HLS2 := Lib.hid (Rd.below HL6.out HZS2.out)
                clear hbS2 KHx2 HSX2 HVX2 HBx2 HZx2
                go_wp2_with fail
                rw [rounds_succ]
                go_wp2_with fail
                have hDD : Wr1.heap.size ≠ Wr2.heap.size := by omega
                have hDT2 := (World.putObj_heap_other (w := wS2) (o := .deferred none) hDD).trans hDT
                refine ⟨by simp, .inl ⟨_, _, rfl, run_takeDeferred hDS2, ⟨by simp, .inl ⟨_, _, rfl, run_takeDeferred hDT2, ?_⟩⟩⟩⟩
                refine ⟨.bool true, by simp [results, Try.results7, go_sem], rfl, ?_⟩
                exact (HBS2.out.grown (grownBy_putObj' _ Wr2.heap.size (.deferred none)) HBS2.out.size (fun k he => by injection he with he; omega)).grown (grownBy_putObj' _ Wr1.heap.size (.deferred none)) (by have := HBS2.out.size; simpa using this) (fun k he => by injection he with he; omega)
end Go.Proofs.Ytchbfeejpdfmhaa
