import Derived.Test.YtjogbgiknnfinaaLaw7
/-! The law LineEnds, walked. -/
set_option linter.unusedSimpArgs false
set_option linter.unusedVariables false
namespace Go.Proofs.Ytjogbgiknnfinaa
open Go.RowKit Go.Shelf Go.Proofs.YtjogbgiknnfinaaW.PrintWords Go.Proofs.YtjogbgiknnfinaaW.PrintLast Go.Proofs.YtjogbgiknnfinaaW.PrintMore
attribute [local go_sem] Oper.semAt_some max2_int min2_int max_two min_two

/-- Between two rounds: the lines so far, in a box of their own; all that was there before is as it was. -/
structure SomeI (wA : World) (pre : List LineX) (W : World) : Prop where
  o : ∃ v, Blk W wA.heap.size #[v] 40 ∧ kLine.R 26 W (wA.heap.size + 1) (fun j => wA.heap.size + 1 ≤ j) v (pre.map LineX.line)
  bel : Below wA.heap.size wA W
theorem someI_own (wA : World) (B : Nat) (hB : wA.heap.size + 1 ≤ B) : OwnFrom B (SomeI wA) := by
  rintro pre W W1 row ⟨⟨v, h4, h5⟩, h6⟩ hg hr
  have ne : ∀ k, k < wA.heap.size + 1 → some k ≠ row := fun k hk he => by have := (hr k he.symm).1; omega
  exact ⟨⟨v, h4.grown hg (ne _ (by omega)), R_turn h5 hg (fun r he => (hr r he).2)⟩, h6.grown hg h6.size (fun k he => by have := (hr k he).1; omega)⟩
theorem someI_new (wA : World) : SomeI wA [] (wA.alloc (.cells #[.slice none 0 0] 40)) :=
  ⟨⟨_, Blk.new wA _ _, by simpa using Kd.R_nil kLine 26 _ (wA.heap.size + 1) _⟩, below_alloc (Below.refl _ _) _⟩

set_option maxRecDepth 100000 in
set_option maxHeartbeats 4000000 in
theorem lineEnds_walk (v : Value) (b : List UInt8) (n : Int) (w : World) (hv : Rd kb w v b) (_ : b.length ≤ 140737488351232) (hn0 : 0 ≤ n) (hn1 : n ≤ 255) :
    Calls Try.prog 7 #[v, .int .u8 n] w fun e w' => e = .returned (.bool true) ∧ Below w.heap.size w w' := by
  obtain ⟨m, rfl⟩ := Int.eq_ofNat_of_zero_le hn0
  have HR := Lib.hid hv
  obtain ⟨A0, c0, rfl, hc0, _⟩ := hv
  obtain ⟨l, hll⟩ : ∃ l, b.take 1000 = l := ⟨_, rfl⟩
  have hl2 : l.length ≤ 1000 := by rw [← hll]; simp; omega
  have HLL := Lib.hid hll
  clear hll
  refine (callsIn_wide (n := 5)).1 ?_
  refine callsIn_of_wp_marks Try.func7 rfl trivial ?_ rfl
  simp only [Try.ntmps7, List.size_toArray, List.length_cons, List.length_nil, Nat.reduceAdd, Nat.reduceSub, Array.replicate_succ, Array.replicate_zero, List.push_toArray, List.append_toArray, List.nil_append, List.cons_append]
  gi_wp2
  refine ⟨trivial, (callsIn_wide.2 (shown07_any _)).mono ?_⟩
  rintro e w1 ⟨rfl, hb1⟩
  have K0 := ((Blk.new w #[.int .u8 (m : Int)] 5).alloc (.cells #[.bool false] 4)).belowW hb1
  have K1 := (Blk.new (w.alloc (.cells #[.int .u8 (m : Int)] 5)) #[.bool false] 4).belowW hb1
  rw [World.size_alloc] at K1
  have HR1 := Lib.hid (Rd.below HR.out (bthen (below_alloc (below_alloc (Below.refl _ _) _) _) hb1))
  have HB1 := Lib.hid (bthen (below_alloc (below_alloc (Below.refl _ _) _) _) hb1)
  clear hb1
  gi_wp2
  refine ⟨trivial, (callsIn_wide.2 (few07_any _ _ _ HR1.out)).mono ?_⟩
  rintro e w2 ⟨v2, rfl, hr2, rfl⟩
  rw [HLL.out] at hr2
  obtain ⟨A2, c2, hv2⟩ := Kd.V_slice hr2
  subst hv2
  have HR2 := Lib.hid hr2
  clear hr2
  gi_wp2
  have KX := Blk.new w1 #[.slice A2 l.length c2] 22
  have hbx := below_alloc (Below.refl w1.heap.size w1) (.cells #[.slice A2 l.length c2] 22)
  have K0x := K0.alloc (.cells #[.slice A2 l.length c2] 22)
  have K1x := K1.alloc (.cells #[.slice A2 l.length c2] 22)
  refine ⟨trivial, (callsIn_wide.2 (list_any _ l _ (Rd.below HR2.out hbx) (by omega))).mono ?_⟩
  rintro e w3 ⟨v3, rfl, hr3, hb3⟩
  have KX3 := KX.belowW hb3
  have K03 := K0x.belowW hb3
  have K13 := K1x.belowW hb3
  have hx3 := KX3.cell.1 0
  obtain ⟨A3, c3, hv3⟩ := Kd.N_slice hr3
  subst hv3
  have HR3 := Lib.hid hr3.rd
  have HB13 := Lib.hid (bthen hbx hb3)
  have HB3 := Lib.hid (bthen HB1.out (bthen hbx hb3))
  have HX3 := Lib.hid (Rd.below HR2.out HB13.out)
  have hlt1 : w1.heap.size < w3.heap.size := KX3.lt
  clear hr3 hb3 hbx KX K0x K1x K0 K1
  gi_wp2
  refine ⟨trivial, (callsIn_wide.2 (all_any _ l _ HX3.out)).mono ?_⟩
  rintro e wA ⟨rfl, hwA⟩
  have hbA : Below w3.heap.size w3 wA := by rw [hwA]; exact below_alloc (Below.refl _ _) _
  have KF : Blk wA w3.heap.size #[.slice A2 l.length c2] 22 := by rw [hwA]; exact Blk.new _ _ _
  clear hwA
  have KXA := KX3.belowW hbA
  have K0A := K03.belowW hbA
  have K1A := K13.belowW hbA
  have HRA := Lib.hid (Rd.below HR3.out hbA)
  have HXA := Lib.hid (Rd.below HX3.out hbA)
  have HBA := Lib.hid (bthen HB3.out hbA)
  clear hbA HR3 HX3 KX3 K03 K13 hx3
  have hnil : ∀ (cap : Array Value) (W : World), (binOp .eql 45 (.func (.func 35) #[] cap) Value.nilFunc).run Try.prog W = .ok (.bool false) W := fun cap W => by kernel_rfl
  gi_wp2
  have hF3 : w3.heap.size < wA.heap.size := KF.lt
  have h4 : (wA.alloc (.cells #[.slice none 0 0] 40)).cell? ⟨w3.heap.size, 0, none⟩ = some (.slice A2 l.length c2) := (KF.alloc _).cell.1 0
  refine range_seq rfl (by omega) (gf := 35) (lb := #[.pointer (some ⟨w3.heap.size, 0, none⟩)]) rfl trivial (enters_of Try.func35 (by kernel_rfl) rfl)
    (all1_seq 4 (by omega) w3.heap.size (.slice A2 l.length c2) l (by omega) wA _ (below_alloc (Below.refl _ _) _) (by simp; omega) h4 HXA.out) (fun h k => ⟨h.1.trans k.1, fun u hu => k.2 u (h.2 u hu)⟩) (fun W l o o' hl h hc hw => ⟨belowK_b (by simp) W l o o' hl h hc hw, fun u hu => cell_kept hu (grownBy_putObj' W l o') (fun r e => by cases e; exact ⟨o, h, hc⟩)⟩) (fun _ => rfl)
    (fun pre W => SomeI wA pre W ∧ pre.length ≤ m) (fun c pre W => c = .exit 0 ∧ SomeI wA pre W ∧ pre.length = m + 1) ?oi ?ox ⟨someI_new wA, by simp⟩ ?round ?done ?stop
  case oi => exact fun pre W W1 row h hg hr => ⟨someI_own wA _ (by simp) pre W W1 row h.1 hg hr, h.2⟩
  case ox => exact fun c pre W W1 row h hg hr => ⟨h.1, someI_own wA _ (by simp) pre W W1 row h.2.1 hg hr, h.2.2⟩
  case stop =>
    intro D c pre W hD hSp hI hK
    obtain ⟨rfl, hSI, hln⟩ := hI
    obtain ⟨rest, hSp⟩ := hSp
    have htk : pre.map LineX.line = (Pl.lines l).take (m + 1) := by
      rw [← hSp, List.take_append_of_le_length (by simp; omega), List.take_of_length_le (by simp; omega)]
    obtain ⟨⟨v1, ho, hr⟩, hbel⟩ := hSI
    rw [htk] at hr
    obtain ⟨A1, c1, hv1⟩ := Kd.R_slice hr
    subst hv1
    obtain ⟨T, hT⟩ : ∃ T, min (Pl.lines l).length (m + 1) = T := ⟨_, rfl⟩
    obtain ⟨L, hL⟩ : ∃ L, Pl.lines l = L := ⟨_, rfl⟩
    have hLl : L.length ≤ 1000 := by have := Pl.lines_len l; rw [hL] at this; omega
    rw [hL] at hT HRA ho hr ⊢
    have hrow := HRA.out
    obtain ⟨Ax, cx, hvx, hcx, hFx⟩ := hrow
    injection hvx with hvx1 hvx3 hvx2
    clear hvx3
    subst hvx1 hvx2
    obtain ⟨i0, hi0, hzz⟩ := Option.map_eq_some_iff.1 infoLine
    obtain ⟨hcutw, hVw⟩ := row_to (d := kLine) 40 26 Try.underlying40 hi0 hFx hcx T (by omega)
    replace hcutw := hcutw .i64 (T : Int) rfl
    have hTe : L.take T = L.take (m + 1) := by
      rw [← hT]
      rcases Nat.le_total L.length (m + 1) with h | h
      · rw [Nat.min_eq_left h, List.take_of_length_le (Nat.le_refl _), List.take_of_length_le h]
      · rw [Nat.min_eq_right h]
    rw [hTe] at hVw
    have HVW := Lib.hid (Rd.below (Kd.V_mono hVw fun _ _ => trivial) hbel)
    have HRW := Lib.hid (Rd.below HRA.out hbel)
    have hif : (if (m : Int) + 1 < (L.length : Int) then (m : Int) + 1 else (L.length : Int)) = (T : Int) := by split <;> omega
    have hwm : IntKind.i64.wrap (m : Int) = (m : Int) := IntWalk.i64_in _ (by omega)
    have hwm1 : IntKind.i64.wrap ((m : Int) + 1) = (m : Int) + 1 := IntWalk.i64_in _ (by omega)
    have knW := K0A.belowW hbel
    have kxW := KXA.belowW hbel
    have krW := K1A.belowW hbel
    have kfW := KF.belowW hbel
    have cn0 := knW.cell.1 0
    have hrN := Kd.R_N hr
    rw [List.length_take] at hrN
    have HRS := Lib.hid (Own.rd hrN)
    clear hrN
    have HHO := Lib.hid ho
    have HXW := Lib.hid (Rd.below HXA.out hbel)
    have HBW := Lib.hid (bthen HBA.out hbel)
    have HT := Lib.hid hT
    have hTm : T ≤ L.length := by omega
    clear hFx hVw hTe hT ho hr hi0 hzz htk hbel
    gi_wp2
    have h4' : (W.alloc (.cells #[.slice none 0 0] 40)).cell? ⟨w3.heap.size, 0, none⟩ = some (.slice A2 l.length c2) := (kfW.alloc _).cell.1 0
    have hFW : w3.heap.size < W.heap.size := kfW.lt
    refine range_seq rfl (by omega) (gf := 35) (lb := #[.pointer (some ⟨w3.heap.size, 0, none⟩)]) rfl trivial (enters_of Try.func35 (by kernel_rfl) rfl)
      (all1_seq 4 (by omega) w3.heap.size (.slice A2 l.length c2) l (by omega) W _ (below_alloc (Below.refl _ _) _) (by simp; omega) h4' HXW.out) (fun h k => ⟨h.1.trans k.1, fun u hu => k.2 u (h.2 u hu)⟩) (fun W l o o' hl h hc hw => ⟨belowK_b (by simp) W l o o' hl h hc hw, fun u hu => cell_kept hu (grownBy_putObj' W l o') (fun r e => by cases e; exact ⟨o, h, hc⟩)⟩) (fun _ => rfl)
      (SomeI W) (fun c pre W => False) (someI_own W _ (by simp)) (fun _ _ _ _ _ h _ _ => h) (someI_new W) ?round2 ?done2 ?stop2
    case stop2 => exact fun D c pre W _ _ h _ => h.elim
    case done2 =>
      intro D2 xs W3 hD2 hS2 hI2 hK2
      obtain ⟨⟨v4, ho4, hr4⟩, hbel4⟩ := hI2
      rw [hS2, hL] at hr4
      obtain ⟨A4, c4, hv4⟩ := Kd.R_slice hr4
      subst hv4
      have kS := HHO.out.belowW hbel4
      have cS := kS.cell.1 0
      have cA := ho4.cell.1 0
      have hDW : D < W.heap.size := (Array.getElem?_eq_some_iff.1 hK).1
      have hD2W : D2 < W3.heap.size := (Array.getElem?_eq_some_iff.1 hK2).1
      have hKD : W3.heap[D]? = some (.deferred (some [])) := (hbel4.block D hDW).trans hK
      have kr3 := krW.belowW hbel4
      have HA1 := Lib.hid (Rd.below HRS.out hbel4)
      have HA2 := Lib.hid (Rd.below HVW.out hbel4)
      have HA3 := Lib.hid (Own.rd (Kd.R_N hr4))
      have HA4 := Lib.hid (Rd.below HRW.out hbel4)
      have HB4 := Lib.hid (bthen HBW.out hbel4)
      have HD2 := Lib.hid hD2
      have HK1 := Lib.hid hKD
      have HK2 := Lib.hid hK2
      clear hr4 ho4 hbel4 hK hK2 hKD hS2
      gi_wp2
      refine ⟨trivial, (callsIn_wide.2 (sameL_any _ _ _ W3 HA1.out HA2.out)).mono ?_⟩
      rintro e w5 ⟨rfl, hb5⟩
      have cA5 := (hb5.cell (p := ⟨W.heap.size, 0, none⟩) (World.block_lt_of_cell? W3 ⟨W.heap.size, 0, none⟩ cA)).trans cA
      have HA35 := Lib.hid (Rd.below HA3.out hb5)
      have HA45 := Lib.hid (Rd.below HA4.out hb5)
      have HB5 := Lib.hid hb5
      clear hb5
      gi_wp2
      refine ⟨trivial, (callsIn_wide.2 (sameL_any _ _ _ w5 HA35.out HA45.out)).mono ?_⟩
      rintro e w6 ⟨rfl, hb6⟩
      have hb36 := bthen HB5.out hb6
      have kr6 := kr3.belowW hb36
      obtain ⟨crr, crf⟩ := kr6.cell
      have HD6 := Lib.hid ((hb36.block D (by have := (Array.getElem?_eq_some_iff.1 HK1.out).1; omega)).trans HK1.out)
      have HD62 := Lib.hid ((hb36.block D2 hD2W).trans HK2.out)
      have HB6 := Lib.hid (bthen HB4.out hb36)
      have HK6 := Lib.hid kr6
      clear hb6 hb36
      gi_wp2
      have hKx := (KeepsOthers.setCell w6 ⟨w.heap.size + 1, 0, none⟩ (.bool true)).same D2 _ HD62.out rfl
      have hKy0 := (KeepsOthers.setCell w6 ⟨w.heap.size + 1, 0, none⟩ (.bool true)).same D _ HD6.out rfl
      have hDD : D ≠ D2 := by have := HD2.out; simp at this; omega
      have hKy := (World.putObj_heap_other (w := w6.setCell ⟨w.heap.size + 1, 0, none⟩ (.bool true)) (o := .deferred none) hDD).trans hKy0
      refine ⟨by simp, .inl ⟨_, _, rfl, run_takeDeferred hKx, ⟨by simp, .inl ⟨_, _, rfl, run_takeDeferred hKy, ?_⟩⟩⟩⟩
      have kz := ((HK6.out.set (cs' := #[.bool true]) 0 (.bool true) rfl).grown (grownBy_putObj' _ D2 (.deferred none)) (fun he => by cases he; have := HD2.out; have := HK6.out.lt; have := hDW; have := krW.lt; simp at *; omega)).grown (grownBy_putObj' _ D (.deferred none)) (fun he => by cases he; have := K1A.lt; simp at hD; omega)
      have ez := kz.cell.1 0
      have hbs := HB6.out.setCell (p := ⟨w.heap.size + 1, 0, none⟩) (by show w.heap.size ≤ w.heap.size + 1; omega) (.bool true)
      refine ⟨.bool true, ?_, rfl, ((hbs.grown (grownBy_putObj' _ D2 (.deferred none)) ?_ ?_).grown (grownBy_putObj' _ D (.deferred none)) ?_ ?_)⟩
      · simp [results, Try.results7, go_sem, ez]
      · exact hbs.size
      · intro k he
        cases he
        have h1 := krW.lt
        have h2 := HD2.out
        simp at h2
        omega
      · simpa using hbs.size
      · intro k he
        cases he
        have := K1A.lt
        simp at hD
        omega
    case round2 =>
      intro l2 pre x Y hl1 hl2 hI hG
      obtain ⟨⟨v1, ho, hr⟩, hbel⟩ := hI
      have hl1' : W.heap.size + 1 ≤ l2 := by simpa using hl1
      have hWA : W.heap.size < Y.heap.size := ho.lt
      dsimp only [LineX.encs]
      gi_wp2
      refine ⟨KeepsOthers.alloc _ _, fun Y2 hT => ?_⟩
      have hal := below_alloc (Below.refl Y.heap.size Y) (.cells #[.int .i64 x.at_, .slice x.A x.bs.length x.c] 26)
      obtain ⟨A1, c1, hv1⟩ := Kd.R_slice hr
      subst hv1
      have hB2' : Below (W.heap.size + 1) Y Y2 := (hal.mono (by omega)).grown hT.grown (by simp; omega) (fun k he => by cases he; omega)
      have hB2A : Below W.heap.size W Y2 := hbel.trans (hB2'.mono (by omega))
      have kx2 := kxW.belowW hB2A
      have kn2 := knW.belowW hB2A
      have ko0 := hT.blk (ho.alloc (.cells #[.int .i64 x.at_, .slice x.A x.bs.length x.c] 26))
      have kx0 := hT.blk (Blk.new Y #[.int .i64 x.at_, .slice x.A x.bs.length x.c] 26)
      have hr2 := hT.R (Kd.R_below hr hal)
      obtain ⟨hG1, ⟨rest, hG2⟩, hG3⟩ := hG
      have hx2 := hT.R (Kd.R_below hG3 hal)
      have hlen : pre.length ≤ l.length := by
        have h1 := congrArg List.length hG2
        have h2 := Pl.lines_len l
        simp at h1
        omega
      have hlm : (pre.map LineX.line).length = pre.length := by simp
      have cbx := kx2.cell.1 0
      obtain ⟨c3', c3f⟩ := ko0.cell
      have cxx := kx0.cell.1
      have hgt : decide ((l.length : Int) < (x.i : Int)) = false := by simp; omega
      simp only [hlm] at c3'
      simp only [hlm] at hr2
      have hx3 : kb.R 5 Y2 (W.heap.size + 1) (fun _ => True) (.slice x.A x.bs.length x.c) x.bs := Kd.R_lower hx2 (by simp)
      have hM : kLine.M Y2 (W.heap.size + 1) (fun j => some j = (Value.slice x.A x.bs.length x.c).ownBlock) x.line [.int .i64 x.at_, .slice x.A x.bs.length x.c] :=
        ⟨[.int .i64 x.at_], [.slice x.A x.bs.length x.c], rfl, rfl, ⟨_, rfl, Kd.R_tight rfl hx3⟩⟩
      have hs2 : Y.heap.size ≤ Y2.heap.size := by have := hT.grown.size; simp at this; omega
      have hQ : ∀ j, some j = (Value.slice x.A x.bs.length x.c).ownBlock → W.heap.size + 1 ≤ j ∧ some j ≠ (Value.slice A1 pre.length c1).ownBlock := fun j hj => by
        have h1 := Kd.N_base (Kd.R_N hx3) j hj.symm
        obtain ⟨cells, hc⟩ := Kd.N_typed (Kd.R_N hx3) j hj.symm
        exact ⟨h1, Kd.R_ne hr2 hc (by decide)⟩
      have hlow : ∀ k, k < W.heap.size + 1 → some k ≠ (Value.slice A1 pre.length c1).ownBlock := fun k hk he => by
        have := Kd.N_base (Kd.R_N hr2) _ he.symm
        omega
      have hown9 : ∀ j (o : Obj), (Value.slice A1 pre.length c1).ownBlock = some j → Y2.heap[j]? = some o → o.isCells = true := fun j o he ho => by
        obtain ⟨cells, hc⟩ := Kd.N_typed (Kd.R_N hr2) j he
        rw [hc] at ho
        cases ho
        rfl
      have cnn0 := kn2.cell.1 0
      gi_wp2_with (gi_at_builtin; refine appendIn kLine (W := Y2) (W.heap.size + 1) rfl (.tmp 64) (.tmp 66) 40 26 (.agg #[.int .i64 0, .slice none 0 0]) 32 rfl Try.underlying40 infoLine rfl (by decide) (by omega) _ (pre.map LineX.line) x.line [.int .i64 x.at_, .slice x.A x.bs.length x.c] (fun j => W.heap.size + 1 ≤ j) (fun j => some j = (Value.slice x.A x.bs.length x.c).ownBlock) rfl rfl hM ?aQ ?aF hr2 ?aS ?aL ?_; (case aQ => exact hQ); (case aF => exact fun j hj => by omega); (case aS => omega); (case aL => simp; omega); intro v9 w9 hr9 hg9 hat9; obtain ⟨A9, c9, hv9⟩ := Kd.R_slice hr9; subst hv9; have ko9 := (ko0.grown hg9 (hlow _ (by omega))); obtain ⟨c9', c9f⟩ := ko9.cell; have hB9' : Below (W.heap.size + 1) Y w9 := hB2'.grown hg9 (by omega) (fun k he => by have := Kd.N_base (Kd.R_N hr2) k he; omega); have hB9 : Below W.heap.size Y w9 := hB9'.mono (by omega); have kn9 := (knW.belowW (hbel.trans hB9)).far (p := ⟨W.heap.size, 0, none⟩) (by show w.heap.size ≠ W.heap.size; have := knW.lt; omega) (.slice A9 (pre.length + 1) c9); have cn9 := kn9.cell.1 0; have co9 := (ko9.set (cs' := #[.slice A9 (pre.length + 1) c9]) 0 (.slice A9 (pre.length + 1) c9) rfl).cell.1 0)
      have hset := hB9.setCell (p := ⟨W.heap.size, 0, none⟩) (Nat.le_refl _) (.slice A9 (pre.length + 1) c9)
      have hfin : SomeI W (pre ++ [x]) (w9.setCell ⟨W.heap.size, 0, none⟩ (.slice A9 (pre.length + 1) c9)) := by
        refine ⟨⟨_, ko9.set 0 _ rfl, ?_⟩, hbel.trans hset⟩
        have hr10 := hr9
        rw [List.length_append, hlm] at hr10
        rw [List.map_append]
        exact Kd.R_far (p := ⟨W.heap.size, 0, none⟩) hr10 (fun k hk => by show k ≠ W.heap.size; omega) _
      exact ⟨(KeepsOthers.of_grownBy hg9 hown9).trans (KeepsOthers.setCell _ _ _), ⟨hset, fun u hu => (hset.cell (p := ⟨w3.heap.size, 0, none⟩) hFW).trans hu⟩, hfin⟩
  case done =>
    intro D pre W hD hS hI hK
    obtain ⟨hSI, hln⟩ := hI
    have htk : pre.map LineX.line = (Pl.lines l).take (m + 1) := by
      rw [← hS, List.take_of_length_le (by simp; omega)]
    obtain ⟨⟨v1, ho, hr⟩, hbel⟩ := hSI
    rw [htk] at hr
    obtain ⟨A1, c1, hv1⟩ := Kd.R_slice hr
    subst hv1
    obtain ⟨T, hT⟩ : ∃ T, min (Pl.lines l).length (m + 1) = T := ⟨_, rfl⟩
    obtain ⟨L, hL⟩ : ∃ L, Pl.lines l = L := ⟨_, rfl⟩
    have hLl : L.length ≤ 1000 := by have := Pl.lines_len l; rw [hL] at this; omega
    rw [hL] at hT HRA ho hr ⊢
    have hrow := HRA.out
    obtain ⟨Ax, cx, hvx, hcx, hFx⟩ := hrow
    injection hvx with hvx1 hvx3 hvx2
    clear hvx3
    subst hvx1 hvx2
    obtain ⟨i0, hi0, hzz⟩ := Option.map_eq_some_iff.1 infoLine
    obtain ⟨hcutw, hVw⟩ := row_to (d := kLine) 40 26 Try.underlying40 hi0 hFx hcx T (by omega)
    replace hcutw := hcutw .i64 (T : Int) rfl
    have hTe : L.take T = L.take (m + 1) := by
      rw [← hT]
      rcases Nat.le_total L.length (m + 1) with h | h
      · rw [Nat.min_eq_left h, List.take_of_length_le (Nat.le_refl _), List.take_of_length_le h]
      · rw [Nat.min_eq_right h]
    rw [hTe] at hVw
    have HVW := Lib.hid (Rd.below (Kd.V_mono hVw fun _ _ => trivial) hbel)
    have HRW := Lib.hid (Rd.below HRA.out hbel)
    have hif : (if (m : Int) + 1 < (L.length : Int) then (m : Int) + 1 else (L.length : Int)) = (T : Int) := by split <;> omega
    have hwm : IntKind.i64.wrap (m : Int) = (m : Int) := IntWalk.i64_in _ (by omega)
    have hwm1 : IntKind.i64.wrap ((m : Int) + 1) = (m : Int) + 1 := IntWalk.i64_in _ (by omega)
    have knW := K0A.belowW hbel
    have kxW := KXA.belowW hbel
    have krW := K1A.belowW hbel
    have kfW := KF.belowW hbel
    have cn0 := knW.cell.1 0
    have hrN := Kd.R_N hr
    rw [List.length_take] at hrN
    have HRS := Lib.hid (Own.rd hrN)
    clear hrN
    have HHO := Lib.hid ho
    have HXW := Lib.hid (Rd.below HXA.out hbel)
    have HBW := Lib.hid (bthen HBA.out hbel)
    have HT := Lib.hid hT
    have hTm : T ≤ L.length := by omega
    clear hFx hVw hTe hT ho hr hi0 hzz htk hbel
    gi_wp2
    have h4' : (W.alloc (.cells #[.slice none 0 0] 40)).cell? ⟨w3.heap.size, 0, none⟩ = some (.slice A2 l.length c2) := (kfW.alloc _).cell.1 0
    have hFW : w3.heap.size < W.heap.size := kfW.lt
    refine range_seq rfl (by omega) (gf := 35) (lb := #[.pointer (some ⟨w3.heap.size, 0, none⟩)]) rfl trivial (enters_of Try.func35 (by kernel_rfl) rfl)
      (all1_seq 4 (by omega) w3.heap.size (.slice A2 l.length c2) l (by omega) W _ (below_alloc (Below.refl _ _) _) (by simp; omega) h4' HXW.out) (fun h k => ⟨h.1.trans k.1, fun u hu => k.2 u (h.2 u hu)⟩) (fun W l o o' hl h hc hw => ⟨belowK_b (by simp) W l o o' hl h hc hw, fun u hu => cell_kept hu (grownBy_putObj' W l o') (fun r e => by cases e; exact ⟨o, h, hc⟩)⟩) (fun _ => rfl)
      (SomeI W) (fun c pre W => False) (someI_own W _ (by simp)) (fun _ _ _ _ _ h _ _ => h) (someI_new W) ?round2 ?done2 ?stop2
    case stop2 => exact fun D c pre W _ _ h _ => h.elim
    case done2 =>
      intro D2 xs W3 hD2 hS2 hI2 hK2
      obtain ⟨⟨v4, ho4, hr4⟩, hbel4⟩ := hI2
      rw [hS2, hL] at hr4
      obtain ⟨A4, c4, hv4⟩ := Kd.R_slice hr4
      subst hv4
      have kS := HHO.out.belowW hbel4
      have cS := kS.cell.1 0
      have cA := ho4.cell.1 0
      have hDW : D < W.heap.size := (Array.getElem?_eq_some_iff.1 hK).1
      have hD2W : D2 < W3.heap.size := (Array.getElem?_eq_some_iff.1 hK2).1
      have hKD : W3.heap[D]? = some (.deferred (some [])) := (hbel4.block D hDW).trans hK
      have kr3 := krW.belowW hbel4
      have HA1 := Lib.hid (Rd.below HRS.out hbel4)
      have HA2 := Lib.hid (Rd.below HVW.out hbel4)
      have HA3 := Lib.hid (Own.rd (Kd.R_N hr4))
      have HA4 := Lib.hid (Rd.below HRW.out hbel4)
      have HB4 := Lib.hid (bthen HBW.out hbel4)
      have HD2 := Lib.hid hD2
      have HK1 := Lib.hid hKD
      have HK2 := Lib.hid hK2
      clear hr4 ho4 hbel4 hK hK2 hKD hS2
      gi_wp2
      refine ⟨trivial, (callsIn_wide.2 (sameL_any _ _ _ W3 HA1.out HA2.out)).mono ?_⟩
      rintro e w5 ⟨rfl, hb5⟩
      have cA5 := (hb5.cell (p := ⟨W.heap.size, 0, none⟩) (World.block_lt_of_cell? W3 ⟨W.heap.size, 0, none⟩ cA)).trans cA
      have HA35 := Lib.hid (Rd.below HA3.out hb5)
      have HA45 := Lib.hid (Rd.below HA4.out hb5)
      have HB5 := Lib.hid hb5
      clear hb5
      gi_wp2
      refine ⟨trivial, (callsIn_wide.2 (sameL_any _ _ _ w5 HA35.out HA45.out)).mono ?_⟩
      rintro e w6 ⟨rfl, hb6⟩
      have hb36 := bthen HB5.out hb6
      have kr6 := kr3.belowW hb36
      obtain ⟨crr, crf⟩ := kr6.cell
      have HD6 := Lib.hid ((hb36.block D (by have := (Array.getElem?_eq_some_iff.1 HK1.out).1; omega)).trans HK1.out)
      have HD62 := Lib.hid ((hb36.block D2 hD2W).trans HK2.out)
      have HB6 := Lib.hid (bthen HB4.out hb36)
      have HK6 := Lib.hid kr6
      clear hb6 hb36
      gi_wp2
      have hKx := (KeepsOthers.setCell w6 ⟨w.heap.size + 1, 0, none⟩ (.bool true)).same D2 _ HD62.out rfl
      have hKy0 := (KeepsOthers.setCell w6 ⟨w.heap.size + 1, 0, none⟩ (.bool true)).same D _ HD6.out rfl
      have hDD : D ≠ D2 := by have := HD2.out; simp at this; omega
      have hKy := (World.putObj_heap_other (w := w6.setCell ⟨w.heap.size + 1, 0, none⟩ (.bool true)) (o := .deferred none) hDD).trans hKy0
      refine ⟨by simp, .inl ⟨_, _, rfl, run_takeDeferred hKx, ⟨by simp, .inl ⟨_, _, rfl, run_takeDeferred hKy, ?_⟩⟩⟩⟩
      have kz := ((HK6.out.set (cs' := #[.bool true]) 0 (.bool true) rfl).grown (grownBy_putObj' _ D2 (.deferred none)) (fun he => by cases he; have := HD2.out; have := HK6.out.lt; have := hDW; have := krW.lt; simp at *; omega)).grown (grownBy_putObj' _ D (.deferred none)) (fun he => by cases he; have := K1A.lt; simp at hD; omega)
      have ez := kz.cell.1 0
      have hbs := HB6.out.setCell (p := ⟨w.heap.size + 1, 0, none⟩) (by show w.heap.size ≤ w.heap.size + 1; omega) (.bool true)
      refine ⟨.bool true, ?_, rfl, ((hbs.grown (grownBy_putObj' _ D2 (.deferred none)) ?_ ?_).grown (grownBy_putObj' _ D (.deferred none)) ?_ ?_)⟩
      · simp [results, Try.results7, go_sem, ez]
      · exact hbs.size
      · intro k he
        cases he
        have h1 := krW.lt
        have h2 := HD2.out
        simp at h2
        omega
      · simpa using hbs.size
      · intro k he
        cases he
        have := K1A.lt
        simp at hD
        omega
    case round2 =>
      intro l2 pre x Y hl1 hl2 hI hG
      obtain ⟨⟨v1, ho, hr⟩, hbel⟩ := hI
      have hl1' : W.heap.size + 1 ≤ l2 := by simpa using hl1
      have hWA : W.heap.size < Y.heap.size := ho.lt
      dsimp only [LineX.encs]
      gi_wp2
      refine ⟨KeepsOthers.alloc _ _, fun Y2 hT => ?_⟩
      have hal := below_alloc (Below.refl Y.heap.size Y) (.cells #[.int .i64 x.at_, .slice x.A x.bs.length x.c] 26)
      obtain ⟨A1, c1, hv1⟩ := Kd.R_slice hr
      subst hv1
      have hB2' : Below (W.heap.size + 1) Y Y2 := (hal.mono (by omega)).grown hT.grown (by simp; omega) (fun k he => by cases he; omega)
      have hB2A : Below W.heap.size W Y2 := hbel.trans (hB2'.mono (by omega))
      have kx2 := kxW.belowW hB2A
      have kn2 := knW.belowW hB2A
      have ko0 := hT.blk (ho.alloc (.cells #[.int .i64 x.at_, .slice x.A x.bs.length x.c] 26))
      have kx0 := hT.blk (Blk.new Y #[.int .i64 x.at_, .slice x.A x.bs.length x.c] 26)
      have hr2 := hT.R (Kd.R_below hr hal)
      obtain ⟨hG1, ⟨rest, hG2⟩, hG3⟩ := hG
      have hx2 := hT.R (Kd.R_below hG3 hal)
      have hlen : pre.length ≤ l.length := by
        have h1 := congrArg List.length hG2
        have h2 := Pl.lines_len l
        simp at h1
        omega
      have hlm : (pre.map LineX.line).length = pre.length := by simp
      have cbx := kx2.cell.1 0
      obtain ⟨c3', c3f⟩ := ko0.cell
      have cxx := kx0.cell.1
      have hgt : decide ((l.length : Int) < (x.i : Int)) = false := by simp; omega
      simp only [hlm] at c3'
      simp only [hlm] at hr2
      have hx3 : kb.R 5 Y2 (W.heap.size + 1) (fun _ => True) (.slice x.A x.bs.length x.c) x.bs := Kd.R_lower hx2 (by simp)
      have hM : kLine.M Y2 (W.heap.size + 1) (fun j => some j = (Value.slice x.A x.bs.length x.c).ownBlock) x.line [.int .i64 x.at_, .slice x.A x.bs.length x.c] :=
        ⟨[.int .i64 x.at_], [.slice x.A x.bs.length x.c], rfl, rfl, ⟨_, rfl, Kd.R_tight rfl hx3⟩⟩
      have hs2 : Y.heap.size ≤ Y2.heap.size := by have := hT.grown.size; simp at this; omega
      have hQ : ∀ j, some j = (Value.slice x.A x.bs.length x.c).ownBlock → W.heap.size + 1 ≤ j ∧ some j ≠ (Value.slice A1 pre.length c1).ownBlock := fun j hj => by
        have h1 := Kd.N_base (Kd.R_N hx3) j hj.symm
        obtain ⟨cells, hc⟩ := Kd.N_typed (Kd.R_N hx3) j hj.symm
        exact ⟨h1, Kd.R_ne hr2 hc (by decide)⟩
      have hlow : ∀ k, k < W.heap.size + 1 → some k ≠ (Value.slice A1 pre.length c1).ownBlock := fun k hk he => by
        have := Kd.N_base (Kd.R_N hr2) _ he.symm
        omega
      have hown9 : ∀ j (o : Obj), (Value.slice A1 pre.length c1).ownBlock = some j → Y2.heap[j]? = some o → o.isCells = true := fun j o he ho => by
        obtain ⟨cells, hc⟩ := Kd.N_typed (Kd.R_N hr2) j he
        rw [hc] at ho
        cases ho
        rfl
      have cnn0 := kn2.cell.1 0
      gi_wp2_with (gi_at_builtin; refine appendIn kLine (W := Y2) (W.heap.size + 1) rfl (.tmp 64) (.tmp 66) 40 26 (.agg #[.int .i64 0, .slice none 0 0]) 32 rfl Try.underlying40 infoLine rfl (by decide) (by omega) _ (pre.map LineX.line) x.line [.int .i64 x.at_, .slice x.A x.bs.length x.c] (fun j => W.heap.size + 1 ≤ j) (fun j => some j = (Value.slice x.A x.bs.length x.c).ownBlock) rfl rfl hM ?aQ ?aF hr2 ?aS ?aL ?_; (case aQ => exact hQ); (case aF => exact fun j hj => by omega); (case aS => omega); (case aL => simp; omega); intro v9 w9 hr9 hg9 hat9; obtain ⟨A9, c9, hv9⟩ := Kd.R_slice hr9; subst hv9; have ko9 := (ko0.grown hg9 (hlow _ (by omega))); obtain ⟨c9', c9f⟩ := ko9.cell; have hB9' : Below (W.heap.size + 1) Y w9 := hB2'.grown hg9 (by omega) (fun k he => by have := Kd.N_base (Kd.R_N hr2) k he; omega); have hB9 : Below W.heap.size Y w9 := hB9'.mono (by omega); have kn9 := (knW.belowW (hbel.trans hB9)).far (p := ⟨W.heap.size, 0, none⟩) (by show w.heap.size ≠ W.heap.size; have := knW.lt; omega) (.slice A9 (pre.length + 1) c9); have cn9 := kn9.cell.1 0; have co9 := (ko9.set (cs' := #[.slice A9 (pre.length + 1) c9]) 0 (.slice A9 (pre.length + 1) c9) rfl).cell.1 0)
      have hset := hB9.setCell (p := ⟨W.heap.size, 0, none⟩) (Nat.le_refl _) (.slice A9 (pre.length + 1) c9)
      have hfin : SomeI W (pre ++ [x]) (w9.setCell ⟨W.heap.size, 0, none⟩ (.slice A9 (pre.length + 1) c9)) := by
        refine ⟨⟨_, ko9.set 0 _ rfl, ?_⟩, hbel.trans hset⟩
        have hr10 := hr9
        rw [List.length_append, hlm] at hr10
        rw [List.map_append]
        exact Kd.R_far (p := ⟨W.heap.size, 0, none⟩) hr10 (fun k hk => by show k ≠ W.heap.size; omega) _
      exact ⟨(KeepsOthers.of_grownBy hg9 hown9).trans (KeepsOthers.setCell _ _ _), ⟨hset, fun u hu => (hset.cell (p := ⟨w3.heap.size, 0, none⟩) hFW).trans hu⟩, hfin⟩
  case round =>
    intro l2 pre x W hl1 hl2 hI hG
    obtain ⟨⟨⟨v1, ho, hr⟩, hbel⟩, hpm⟩ := hI
    have hl1' : wA.heap.size + 1 ≤ l2 := by simpa using hl1
    have hWA : wA.heap.size < W.heap.size := ho.lt
    dsimp only [LineX.encs]
    gi_wp2
    refine ⟨KeepsOthers.alloc _ _, fun W2 hT => ?_⟩
    have hal := below_alloc (Below.refl W.heap.size W) (.cells #[.int .i64 x.at_, .slice x.A x.bs.length x.c] 26)
    obtain ⟨A1, c1, hv1⟩ := Kd.R_slice hr
    subst hv1
    have hB2' : Below (wA.heap.size + 1) W W2 := (hal.mono (by omega)).grown hT.grown (by simp; omega) (fun k he => by cases he; omega)
    have hB2A : Below wA.heap.size wA W2 := hbel.trans (hB2'.mono (by omega))
    have kx2 := KXA.belowW hB2A
    have kn2 := K0A.belowW hB2A
    have ko0 := hT.blk (ho.alloc (.cells #[.int .i64 x.at_, .slice x.A x.bs.length x.c] 26))
    have kx0 := hT.blk (Blk.new W #[.int .i64 x.at_, .slice x.A x.bs.length x.c] 26)
    have hr2 := hT.R (Kd.R_below hr hal)
    obtain ⟨hG1, ⟨rest, hG2⟩, hG3⟩ := hG
    have hx2 := hT.R (Kd.R_below hG3 hal)
    have hlen : pre.length ≤ l.length := by
      have h1 := congrArg List.length hG2
      have h2 := Pl.lines_len l
      simp at h1
      omega
    have hlm : (pre.map LineX.line).length = pre.length := by simp
    have cbx := kx2.cell.1 0
    obtain ⟨c3', c3f⟩ := ko0.cell
    have cxx := kx0.cell.1
    have hgt : decide ((l.length : Int) < (x.i : Int)) = false := by simp; omega
    simp only [hlm] at c3'
    simp only [hlm] at hr2
    have hx3 : kb.R 5 W2 (wA.heap.size + 1) (fun _ => True) (.slice x.A x.bs.length x.c) x.bs := Kd.R_lower hx2 (by simp)
    have hM : kLine.M W2 (wA.heap.size + 1) (fun j => some j = (Value.slice x.A x.bs.length x.c).ownBlock) x.line [.int .i64 x.at_, .slice x.A x.bs.length x.c] :=
      ⟨[.int .i64 x.at_], [.slice x.A x.bs.length x.c], rfl, rfl, ⟨_, rfl, Kd.R_tight rfl hx3⟩⟩
    have hs2 : W.heap.size ≤ W2.heap.size := by have := hT.grown.size; simp at this; omega
    have hQ : ∀ j, some j = (Value.slice x.A x.bs.length x.c).ownBlock → wA.heap.size + 1 ≤ j ∧ some j ≠ (Value.slice A1 pre.length c1).ownBlock := fun j hj => by
      have h1 := Kd.N_base (Kd.R_N hx3) j hj.symm
      obtain ⟨cells, hc⟩ := Kd.N_typed (Kd.R_N hx3) j hj.symm
      exact ⟨h1, Kd.R_ne hr2 hc (by decide)⟩
    have hlow : ∀ k, k < wA.heap.size + 1 → some k ≠ (Value.slice A1 pre.length c1).ownBlock := fun k hk he => by
      have := Kd.N_base (Kd.R_N hr2) _ he.symm
      omega
    have hown9 : ∀ j (o : Obj), (Value.slice A1 pre.length c1).ownBlock = some j → W2.heap[j]? = some o → o.isCells = true := fun j o he ho => by
      obtain ⟨cells, hc⟩ := Kd.N_typed (Kd.R_N hr2) j he
      rw [hc] at ho
      cases ho
      rfl
    have hwm : IntKind.i64.wrap (m : Int) = (m : Int) := IntWalk.i64_in _ (by omega)
    have cnn0 := kn2.cell.1 0
    rcases Nat.lt_or_ge pre.length m with hpm2 | hpm2
    · have hgt2 : decide ((m : Int) < (pre.length : Int) + 1) = false := by simp; omega
      gi_wp2_with (gi_at_builtin; refine appendIn kLine (W := W2) (wA.heap.size + 1) rfl (.tmp 40) (.tmp 42) 40 26 (.agg #[.int .i64 0, .slice none 0 0]) 32 rfl Try.underlying40 infoLine rfl (by decide) (by omega) _ (pre.map LineX.line) x.line [.int .i64 x.at_, .slice x.A x.bs.length x.c] (fun j => wA.heap.size + 1 ≤ j) (fun j => some j = (Value.slice x.A x.bs.length x.c).ownBlock) rfl rfl hM ?aQ ?aF hr2 ?aS ?aL ?_; (case aQ => exact hQ); (case aF => exact fun j hj => by omega); (case aS => omega); (case aL => simp; omega); intro v9 w9 hr9 hg9 hat9; obtain ⟨A9, c9, hv9⟩ := Kd.R_slice hr9; subst hv9; have ko9 := (ko0.grown hg9 (hlow _ (by omega))); obtain ⟨c9', c9f⟩ := ko9.cell; have hB9' : Below (wA.heap.size + 1) W w9 := hB2'.grown hg9 (by omega) (fun k he => by have := Kd.N_base (Kd.R_N hr2) k he; omega); have hB9 : Below wA.heap.size W w9 := hB9'.mono (by omega); have kn9 := (K0A.belowW (hbel.trans hB9)).far (p := ⟨wA.heap.size, 0, none⟩) (by show w.heap.size ≠ wA.heap.size; have := K0A.lt; omega) (.slice A9 (pre.length + 1) c9); have cn9 := kn9.cell.1 0; have co9 := (ko9.set (cs' := #[.slice A9 (pre.length + 1) c9]) 0 (.slice A9 (pre.length + 1) c9) rfl).cell.1 0)
      have hset := hB9.setCell (p := ⟨wA.heap.size, 0, none⟩) (Nat.le_refl _) (.slice A9 (pre.length + 1) c9)
      have hfin : SomeI wA (pre ++ [x]) (w9.setCell ⟨wA.heap.size, 0, none⟩ (.slice A9 (pre.length + 1) c9)) := by
        refine ⟨⟨_, ko9.set 0 _ rfl, ?_⟩, hbel.trans hset⟩
        have hr10 := hr9
        rw [List.length_append, hlm] at hr10
        rw [List.map_append]
        exact Kd.R_far (p := ⟨wA.heap.size, 0, none⟩) hr10 (fun k hk => by show k ≠ wA.heap.size; omega) _
      exact ⟨(KeepsOthers.of_grownBy hg9 hown9).trans (KeepsOthers.setCell _ _ _), ⟨hset, fun u hu => (hset.cell (p := ⟨w3.heap.size, 0, none⟩) hF3).trans hu⟩, hfin, by simp; omega⟩
    · have hgt2 : decide ((m : Int) < (pre.length : Int) + 1) = true := by simp; omega
      gi_wp2_with (gi_at_builtin; refine appendIn kLine (W := W2) (wA.heap.size + 1) rfl (.tmp 40) (.tmp 42) 40 26 (.agg #[.int .i64 0, .slice none 0 0]) 32 rfl Try.underlying40 infoLine rfl (by decide) (by omega) _ (pre.map LineX.line) x.line [.int .i64 x.at_, .slice x.A x.bs.length x.c] (fun j => wA.heap.size + 1 ≤ j) (fun j => some j = (Value.slice x.A x.bs.length x.c).ownBlock) rfl rfl hM ?aQ ?aF hr2 ?aS ?aL ?_; (case aQ => exact hQ); (case aF => exact fun j hj => by omega); (case aS => omega); (case aL => simp; omega); intro v9 w9 hr9 hg9 hat9; obtain ⟨A9, c9, hv9⟩ := Kd.R_slice hr9; subst hv9; have ko9 := (ko0.grown hg9 (hlow _ (by omega))); obtain ⟨c9', c9f⟩ := ko9.cell; have hB9' : Below (wA.heap.size + 1) W w9 := hB2'.grown hg9 (by omega) (fun k he => by have := Kd.N_base (Kd.R_N hr2) k he; omega); have hB9 : Below wA.heap.size W w9 := hB9'.mono (by omega); have kn9 := (K0A.belowW (hbel.trans hB9)).far (p := ⟨wA.heap.size, 0, none⟩) (by show w.heap.size ≠ wA.heap.size; have := K0A.lt; omega) (.slice A9 (pre.length + 1) c9); have cn9 := kn9.cell.1 0; have co9 := (ko9.set (cs' := #[.slice A9 (pre.length + 1) c9]) 0 (.slice A9 (pre.length + 1) c9) rfl).cell.1 0)
      have hset := hB9.setCell (p := ⟨wA.heap.size, 0, none⟩) (Nat.le_refl _) (.slice A9 (pre.length + 1) c9)
      have hfin : SomeI wA (pre ++ [x]) (w9.setCell ⟨wA.heap.size, 0, none⟩ (.slice A9 (pre.length + 1) c9)) := by
        refine ⟨⟨_, ko9.set 0 _ rfl, ?_⟩, hbel.trans hset⟩
        have hr10 := hr9
        rw [List.length_append, hlm] at hr10
        rw [List.map_append]
        exact Kd.R_far (p := ⟨wA.heap.size, 0, none⟩) hr10 (fun k hk => by show k ≠ wA.heap.size; omega) _
      exact ⟨(KeepsOthers.of_grownBy hg9 hown9).trans (KeepsOthers.setCell _ _ _), rfl, hfin, by simp; omega⟩
end Go.Proofs.Ytjogbgiknnfinaa
