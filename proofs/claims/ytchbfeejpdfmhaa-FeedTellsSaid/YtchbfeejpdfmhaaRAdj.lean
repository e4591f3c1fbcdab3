import Derived.Test.YtchbfeejpdfmhaaAdj
import Derived.Test.YtchbfeejpdfmhaaRef8
import Derived.Test.YtchbfeejpdfmhaaRWords
/-! creelref09.Parse. -/
set_option linter.unusedSimpArgs false
set_option linter.unusedVariables false
namespace Go.Proofs.Ytchbfeejpdfmhaa
open Go.RowKit Go.Proofs.YtchbfeejpdfmhaaW.PrintWords Go.Proofs.YtchbfeejpdfmhaaW.PrintLast Go.Proofs.YtchbfeejpdfmhaaW.PrintMore

theorem n_rd {α : Type} {d : Kd α} {e base : Nat} {w : World} {ok : Nat → Prop} {v : Value} {xs : List α} (h : Kd.N d e w base ok v xs) : Rd d w v xs := by
  obtain ⟨A, c, he, hl, hf⟩ := Kd.N_V (base' := 0) h
  exact Kd.V_mono ⟨A, c, he, hl, hf⟩ (fun _ _ => trivial)
/-- A row of bytes. -/
def kBytes : Kd (List UInt8) := Kd.slice 5 kb
theorem infoBytes : (Try.prog.info? 22).map (fun i => (i.zero, i.size, i.bytes)) = some (some (.slice none 0 0), kBytes.sz, 24) := by kernel_rfl
theorem bytes_FK {w : World} {ok : Nat → Prop} {vB : Value} {bs : List UInt8} (h : Kd.V kb 0 w 0 ok vB bs) : Kd.FK kBytes w ok bs [vB] := by
  obtain ⟨A, c, rfl, hl, hF⟩ := h
  exact fun W' hW => ⟨A, c, rfl, hl, hF W' hW⟩
theorem bytes_open {w : World} {ok : Nat → Prop} {x : List UInt8} {cs : List Value} (h : Kd.FK kBytes w ok x cs) : ∃ A c, cs = [.slice A x.length c] ∧ Kd.V kb 0 w 0 ok (.slice A x.length c) x := by
  obtain ⟨A, c, rfl, hl, _⟩ := Kd.FK_now h
  refine ⟨_, _, rfl, A, c, rfl, hl, fun W' hW => ?_⟩
  obtain ⟨A', c', he, hl', hC⟩ := h W' hW
  simp at he
  rw [he.1]
  exact hC
theorem bytes_own {w : World} {v : Value} {e base : Nat} {ok : Nat → Prop} {xs : List (List UInt8)} (h : Kd.N kBytes e w base ok v xs) (hp : 0 < xs.length) :
    ∃ g cap, v = .slice (some ⟨g, 0, none⟩) xs.length cap ∧ g < w.heap.size ∧ ∀ (i : Nat) (x : List UInt8), xs[i]? = some x → ∃ A2 c2, Kd.V kb 0 w 0 ok (.slice A2 x.length c2) x ∧ w.cell? ⟨g, i, none⟩ = some (.slice A2 x.length c2) := by
  obtain ⟨g, cap, rfl, _, hg, _⟩ := Kd.N_form h hp
  refine ⟨g, cap, rfl, hg, fun i x hx => ?_⟩
  obtain ⟨ad, cs, he, hK, hc⟩ := row_get (Kd.N_F h) i x hx
  injection he with he
  subst he
  obtain ⟨A2, c2, rfl, hV⟩ := bytes_open hK
  have e0 := hc 0 _ rfl
  rw [add_plain] at e0
  exact ⟨A2, c2, hV, by simpa [kBytes, Kd.slice] using e0⟩

set_option maxRecDepth 100000 in
set_option maxHeartbeats 4000000 in
theorem raparse_any (v : Value) (at_ : Int) (bs : List UInt8) (num : Bool) (w : World) (hv : Rd kb w v bs) (ha : 0 ≤ at_) (hb : at_ ≤ 4611686018427387904) (hl : bs.length ≤ 1048576) :
    Calls Try.prog 15 #[.agg #[.int .i64 at_, v], .bool num] w fun e w' => ∃ v', e = .returned v' ∧ Rd kItem w' v' (Pl.adj at_ bs num) ∧ Below w.heap.size w w' := by
  have HR := Lib.hid hv
  obtain ⟨A0, c0, rfl, hc0, _⟩ := hv
  go_enter Try.func15, Try.ntmps15
  go_wp2_with fail
  refine calls_at fun W0 hW0 => ?_
  have HB0 : Below w.heap.size w W0 := by
    rw [← hW0]
    exact below_alloc (Below.refl _ _) _
  have KX := Blk.new w #[.int .i64 at_, .slice A0 bs.length c0] 26
  rw [hW0] at KX
  clear hW0
  refine (rwords_any _ at_ bs _ (Rd.below HR.out HB0) ha hb (by omega)).mono ?_
  rintro e w1 ⟨v1, rfl, ho1, hb1⟩
  obtain ⟨A1, c1, hv1⟩ := Kd.N_slice ho1
  subst hv1
  have HO1 := Lib.hid ho1
  have HB1 := Lib.hid (bthen HB0 hb1)
  replace KX := KX.belowW hb1
  clear ho1 hb1 HB0
  have hwl := Pl.words_len at_ bs
  obtain ⟨ws, hws⟩ : ∃ ws, Pl.words at_ bs = ws := ⟨_, rfl⟩
  rw [hws] at HO1 hwl ⊢
  have HW := Lib.hid hws
  have hzX := KX.lt
  obtain ⟨hX, hXf⟩ := KX.cell
  by_cases hw0 : ws.length = 0
  · have HE := Lib.hid (Pl.adj_none (num := num) HW.out hw0)
    have hq0 : (ws.length : Int) = 0 := by omega
    clear hws
    go_wp2_with fail
    go_ret
    rw [HE.out]
    exact ⟨_, rfl, item_one (Rd.nil _ _) (Rd.nil _ _), below_alloc HB1.out _⟩
  · have hq0 : ((ws.length : Int) == 0) = false := beq_false_of_ne (by omega)
    clear hws hX hXf
    have KXH := Lib.hid KX
    clear KX
    obtain ⟨gl, capl, hvl, hgl, hget⟩ := line_own HO1.out (by omega)
    injection hvl with hvl1 _ hvl2
    subst hvl1 hvl2
    have HGET := Lib.hid hget
    clear hget
    go_wp2_with fail
    go_loopw [6, 7] (fun out i wr => ∃ k : Nat, i = .int .i64 (k : Int) ∧ Aside0 (k ≤ ws.length) ∧ Aside0 (Pl.badAt num (ws.take k) = none) ∧ Aside0 (Own kBytes 22 wr w1.heap.size out (Pl.labs num (ws.take k))) ∧ Aside0 (Below w1.heap.size w1 wr)) (fun _ i _ => ws.length - (intOf i).toNat)
    case atStart => exact ⟨0, rfl, ⟨by omega⟩, ⟨rfl⟩, ⟨by simpa [Pl.labs] using Own.nil kBytes 22 w1 w1.heap.size⟩, ⟨Below.refl _ _⟩⟩
    case round =>
      obtain ⟨k, rfl, hk, hbad, HO, HB⟩ := hrel
      by_cases hlt : k < ws.length
      · obtain ⟨⟨x1, xb⟩, hxk⟩ : ∃ p, ws[k]? = some p := ⟨_, List.getElem?_eq_getElem hlt⟩
        obtain ⟨A2, c2, hVx, hx0, hx1⟩ := HGET.out k _ hxk
        have hx0' := (HB.out.cell (p := ⟨gl, k * 2, none⟩) hgl).trans hx0
        have hx1' := (HB.out.cell (p := ⟨gl, k * 2 + 1, none⟩) hgl).trans hx1
        have hzr : gl < wr.heap.size := Nat.lt_of_lt_of_le hgl HB.out.size
        have HVx := Lib.hid hVx
        have HXK := Lib.hid hxk
        clear hx0 hx1 hVx hxk
        go_wp2_with fail
        refine (rlabel_any _ xb num _ (Kd.V_mono (Kd.V_below HVx.out HB.out) (fun _ _ => trivial))).mono ?_
        rintro e W3 ⟨va, rfl, hoa, hba⟩
        obtain ⟨A4, c4, hva⟩ := Kd.N_slice hoa
        subst hva
        have hx0'' := (hba.cell (p := ⟨gl, k * 2, none⟩) hzr).trans hx0'
        clear hx0' hx1'
        have hzr3 : gl < W3.heap.size := Nat.lt_of_lt_of_le hzr hba.size
        have HBW := Lib.hid hba
        have HOA := Lib.hid hoa
        clear hba hoa
        have HB3 := Lib.hid (bthen HB1.out (bthen HB.out HBW.out))
        rcases hla : Pl.label xb num with _ | la
        · have HE := Lib.hid (Pl.adj_bad (num := num) HW.out (Pl.badAt_some HXK.out hbad.out hla))
          rw [hla] at HOA
          clear hla
          simp only [Option.isSome_none, Option.getD_none, List.length_nil] at HOA ⊢
          go_wp2_with fail
          go_ret
          rw [HE.out]
          exact ⟨_, rfl, item_one (Rd.nil _ _) (Rd.nil _ _), below_alloc HB3.out _⟩
        · have HN := Lib.hid (Pl.badAt_next HXK.out hbad.out hla)
          have HL := Lib.hid (Pl.labs_next HXK.out hla)
          rw [hla] at HOA
          clear hla hx0''
          simp only [Option.isSome_some, Option.getD_some] at HOA ⊢
          obtain ⟨L, hL⟩ : ∃ L, Pl.labs num (ws.take k) = L := ⟨_, rfl⟩
          have hml : L.length ≤ k := by
            rw [← hL, Pl.labs_len, List.length_take]
            omega
          rw [hL] at HL HO
          obtain ⟨A7, c7, hv7⟩ := Kd.N_slice HO.out
          subst hv7
          clear hL
          go_wp2_with ((with_reducible refine gate_builtin (b := .append) (xs := #[.tmp 46, .tmp 48]) rfl ?_); at_builtin; refine Kd.N_append kBytes (w0 := w1) w1.heap.size rfl (.tmp 46) (.tmp 48) 56 22 (.slice none 0 0) 24 rfl Try.underlying56 infoBytes rfl (by decide) (by omega) _ L la [.slice A4 la.length c4] (fun k => w1.heap.size ≤ k) (fun k => wr.heap.size ≤ k) rfl rfl ?aP ?aQ ?aF ?aO ?aB ?aS ?aL ?_; (case aP => exact bytes_FK HOA.out.v); (case aQ => exact fun j hj => ⟨Nat.le_trans HB.out.size hj, fun he => by have := HO.out.lt j he.symm; omega⟩); (case aF => exact fun j hj => Nat.le_trans (Nat.le_trans HB.out.size HBW.out.size) hj); (case aO => exact HO.out.below HBW.out); (case aB => exact bthen HB.out HBW.out); (case aS => exact Nat.le_trans HB.out.size HBW.out.size); (case aL => omega); intro v9 w9 ho9 hb9 hg9 hat9)
          go_roundw
          case rel => exact ⟨k + 1, by go_num, ⟨by omega⟩, ⟨HN.out⟩, ⟨by rw [HL.out]; exact ho9⟩, ⟨hb9⟩⟩
          case measure => simp [intOf]; omega
      · obtain rfl : k = ws.length := by have := hk.out; omega
        rw [List.take_of_length_le (Nat.le_refl _)] at hbad HO
        have HBf := Lib.hid (bthen HB1.out HB.out)
        obtain ⟨L, hL⟩ : ∃ L, Pl.labs num ws = L := ⟨_, rfl⟩
        have hLl : L.length = ws.length := by rw [← hL, Pl.labs_len]
        have HLw := Lib.hid hL
        rw [hL] at HO
        obtain ⟨gb, capb, hvb, hgb, hgetb⟩ := bytes_own HO.out (by omega)
        rw [hLl] at hvb
        subst hvb
        obtain ⟨a, r, hLr⟩ : ∃ a r, L = a :: r := by
          rcases L with _ | ⟨a, r⟩
          · simp at hLl; omega
          · exact ⟨a, r, rfl⟩
        obtain ⟨A6, c6, hV0, hc0'⟩ := hgetb 0 a (by rw [hLr]; rfl)
        have HV0 := Lib.hid hV0
        clear hL
        by_cases h1 : ws.length = 1
        · have HE := Lib.hid (Pl.adj_one (num := num) HW.out h1 hbad.out)
          have hw1 : (ws.length : Int) = 1 := by omega
          have hd0 : (0 : Int) < (ws.length : Int) := by omega
          clear hV0 hgetb hLl
          have HLr := Lib.hid hLr
          clear hLr
          go_wp2_with fail
          go_ret
          rw [HE.out, HLw.out, HLr.out]
          exact ⟨_, rfl, item_one (Kd.V_mono HV0.out (fun _ _ => trivial)) (Rd.nil _ _), below_alloc HBf.out _⟩
        · have HE := Lib.hid (Pl.adj_more (num := num) HW.out (by omega) hbad.out)
          have hw1 : ((ws.length : Int) == 1) = false := beq_false_of_ne (by omega)
          have HLr := Lib.hid hLr
          have HGB := Lib.hid hgetb
          have HC0 := Lib.hid hc0'
          clear hV0 hgetb hLr hc0'
          go_wp2_with fail
          obtain ⟨wb, hwb⟩ : ∃ x, x = wr := ⟨_, rfl⟩
          subst hwb
          have hrl : r.length + 1 = ws.length := by rw [← hLl, HLr.out]; simp
          go_loopw [10, 11] (fun out i wr => ∃ k : Nat, i = .int .i64 ((k : Int) + 1) ∧ Aside0 (k ≤ r.length) ∧ Aside0 (Kd.N kItem 36 wr wb.heap.size (fun _ => True) out ((r.take k).map fun b => (true, a, b, 0, 0))) ∧ Aside0 (Below wb.heap.size wb wr)) (fun _ i _ => ws.length - (intOf i).toNat)
          case atStart => exact ⟨0, rfl, ⟨by omega⟩, ⟨by simpa using Kd.N_nil kItem 36 wb wb.heap.size (fun _ => True)⟩, ⟨Below.refl _ _⟩⟩
          case round =>
            obtain ⟨k, rfl, hk2, HO2, HB2⟩ := hrel
            by_cases hlt2 : k < r.length
            · obtain ⟨b, hbk⟩ : ∃ b, r[k]? = some b := ⟨_, List.getElem?_eq_getElem hlt2⟩
              obtain ⟨A8, c8, hV8, hc8⟩ := HGB.out (k + 1) b (by rw [HLr.out]; simpa using hbk)
              have HV8 := Lib.hid hV8
              have hT : (r.take (k + 1)).map (fun b => ((true, a, b, 0, 0) : Pl.ItT)) = (r.take k).map (fun b => ((true, a, b, 0, 0) : Pl.ItT)) ++ [(true, a, b, 0, 0)] := by
                rw [Pl.takeD hbk, List.map_append]; rfl
              have HT := Lib.hid hT
              have hx0 := (HB2.out.drew.cell (p := ⟨gb, 0, none⟩) hgb).trans HC0.out
              have hx1 := (HB2.out.drew.cell (p := ⟨gb, k + 1, none⟩) hgb).trans hc8
              have HC8 := Lib.hid hc8
              have hln : ((r.take k).map (fun b => ((true, a, b, 0, 0) : Pl.ItT))).length ≤ k := by simp; omega
              obtain ⟨M, hM⟩ : ∃ M, (r.take k).map (fun b => ((true, a, b, 0, 0) : Pl.ItT)) = M := ⟨_, rfl⟩
              rw [hM] at HT HO2 hln
              have hd1 : decide ((k : Int) + 1 < (ws.length : Int)) = true := by simp; omega
              have q1 : (0 : Int) ≤ (k : Int) + 1 := by omega
              have q2 : (k : Int) + 1 < (ws.length : Int) := by omega
              have q3 : ((k : Int) + 1).toNat = k + 1 := by omega
              have q4 : (0 : Int) < (ws.length : Int) := by omega
              have q5 : 0 < ws.length := by omega
              clear hV8 hc8 hT hM hbk
              go_wp2_with fail
              go_region_held3 (fun W => W.cell? ⟨gb, 0, none⟩ = some (.slice A6 a.length c6) ∧ W.cell? ⟨gb, k + 1, none⟩ = some (.slice A8 b.length c8)) (first | exact ⟨hx0, hx1⟩ | exact ⟨((HB2.out.alloc HB2.out.size _).drew.cell (p := ⟨gb, 0, none⟩) hgb).trans HC0.out, ((HB2.out.alloc HB2.out.size _).drew.cell (p := ⟨gb, k + 1, none⟩) hgb).trans HC8.out⟩ | exact ⟨(hb9.cell (p := ⟨gb, 0, none⟩) hgb).trans HC0.out, (hb9.cell (p := ⟨gb, k + 1, none⟩) hgb).trans HC8.out⟩ | go_keep)
                (first | (refine Kd.N_append_step kItem (w0 := wb) (W := wr.drew) wb.heap.size rfl (.tmp 64) (.tmp 73) 29 36 (.agg #[.bool false, .slice none 0 0, .slice none 0 0, .int .i64 0, .int .i64 0]) 72 rfl Try.underlying29 infoItem5 rfl (by decide) (by omega) _ M (true, a, b, 0, 0) [.bool true, .slice A6 a.length c6, .slice A8 b.length c8, .int .i64 0, .int .i64 0] (fun _ => True) (fun j => j < wb.heap.size) rfl rfl ?aP ?aQ ?aF ?aO ?aB ?aS ?aL ?_; (case aP => exact item_FK (Kd.V_below (Kd.V_mono (Kd.V_bound HV0.out) (fun j hj => And.right hj)) HB2.out.drew) (Kd.V_below (Kd.V_mono (Kd.V_bound HV8.out) (fun j hj => And.right hj)) HB2.out.drew)); (case aQ => exact fun j hj => ⟨trivial, fun he => by have := Kd.N_base HO2.out j he.symm; omega⟩); (case aF => exact fun _ _ => trivial); (case aO => exact Kd.N_drew HO2.out); (case aB => exact HB2.out.drew); (case aS => exact HB2.out.drew.size); (case aL => omega); intro v9 w9 ho9 hb9 hg9 hat9))
              go_wp2
              go_roundw
              case rel => exact ⟨k + 1, by go_num, ⟨by omega⟩, ⟨by rw [HT.out]; exact ho9⟩, ⟨hb9⟩⟩
              case measure => simp [intOf]; omega
            · obtain rfl : k = r.length := by have := hk2.out; omega
              have hd1 : decide ((r.length : Int) + 1 < (ws.length : Int)) = false := by simp; omega
              rw [List.take_of_length_le (Nat.le_refl _)] at HO2
              go_wp2_with fail
              go_ret
              rw [HE.out, HLw.out, HLr.out]
              exact ⟨_, rfl, n_rd HO2.out, bthen HBf.out HB2.out⟩
end Go.Proofs.Ytchbfeejpdfmhaa
/-! creelref09.Parse: its rows are the call's own. -/
set_option linter.unusedSimpArgs false
set_option linter.unusedVariables false
namespace Go.Proofs.Ytchbfeejpdfmhaa
open Go.RowKit Go.Proofs.YtchbfeejpdfmhaaW.PrintWords Go.Proofs.YtchbfeejpdfmhaaW.PrintLast Go.Proofs.YtchbfeejpdfmhaaW.PrintMore
theorem n_V0 {α : Type} {d : Kd α} {e base : Nat} {w : World} {ok : Nat → Prop} {v : Value} {xs : List α} (h : Kd.N d e w base ok v xs) : Kd.V d 0 w 0 ok v xs := by
  obtain ⟨A, c, he, hl, hf⟩ := Kd.N_V (base' := 0) h
  exact ⟨A, c, he, hl, hf⟩
theorem V_nil {w : World} (ok : Nat → Prop) : Kd.V kb 0 w 0 ok (.slice none 0 0) [] := Kd.R_V (base' := 0) (Kd.R_nil kb 0 w 0 ok)
theorem item_oneV {w : World} {va vb : Value} {two : Bool} {a b : List UInt8} {code at_ : Int} {ok : Nat → Prop} (ha : Kd.V kb 0 w 0 ok va a) (hb : Kd.V kb 0 w 0 ok vb b) (hok : ok w.heap.size) :
    Kd.V kItem 0 (w.alloc (.cells #[.bool two, va, vb, .int .i64 code, .int .i64 at_] 36)) 0 ok (.slice (some ⟨w.heap.size, 0, none⟩) 1 1) [(two, a, b, code, at_)] := by
  have hb2 := below_alloc (Below.refl w.heap.size w) (.cells #[.bool two, va, vb, .int .i64 code, .int .i64 at_] 36)
  refine krow_rd (xs := [(two, a, b, code, at_)]) (heap_alloc_new w _) (fun j x hx => ?_) hok (by simp) (by simp)
  rcases j with _ | j
  · simp only [List.getElem?_cons_zero, Option.some.injEq] at hx
    subst hx
    refine ⟨_, item_FK (Kd.V_below ha hb2) (Kd.V_below hb hb2), fun i u hu => ?_⟩
    rw [Nat.zero_mul, Nat.zero_add]
    simpa using hu
  · simp at hx

set_option maxRecDepth 100000 in
set_option maxHeartbeats 4000000 in
theorem raparse_own (v : Value) (at_ : Int) (bs : List UInt8) (num : Bool) (w : World) (hv : Rd kb w v bs) (ha : 0 ≤ at_) (hb : at_ ≤ 4611686018427387904) (hl : bs.length ≤ 1048576) :
    Calls Try.prog 15 #[.agg #[.int .i64 at_, v], .bool num] w fun e w' => ∃ v', e = .returned v' ∧ Kd.V kItem 0 w' 0 (fun k => w.heap.size ≤ k) v' (Pl.adj at_ bs num) ∧ Below w.heap.size w w' := by
  have HR := Lib.hid hv
  obtain ⟨A0, c0, rfl, hc0, _⟩ := hv
  go_enter Try.func15, Try.ntmps15
  go_wp2_with fail
  refine calls_at fun W0 hW0 => ?_
  have HB0 : Below w.heap.size w W0 := by
    rw [← hW0]
    exact below_alloc (Below.refl _ _) _
  have KX := Blk.new w #[.int .i64 at_, .slice A0 bs.length c0] 26
  rw [hW0] at KX
  clear hW0
  refine (rwords_any _ at_ bs _ (Rd.below HR.out HB0) ha hb (by omega)).mono ?_
  rintro e w1 ⟨v1, rfl, ho1, hb1⟩
  obtain ⟨A1, c1, hv1⟩ := Kd.N_slice ho1
  subst hv1
  have HO1 := Lib.hid ho1
  have HB1 := Lib.hid (bthen HB0 hb1)
  replace KX := KX.belowW hb1
  clear ho1 hb1 HB0
  have hwl := Pl.words_len at_ bs
  obtain ⟨ws, hws⟩ : ∃ ws, Pl.words at_ bs = ws := ⟨_, rfl⟩
  rw [hws] at HO1 hwl ⊢
  have HW := Lib.hid hws
  have hzX := KX.lt
  obtain ⟨hX, hXf⟩ := KX.cell
  by_cases hw0 : ws.length = 0
  · have HE := Lib.hid (Pl.adj_none (num := num) HW.out hw0)
    have hq0 : (ws.length : Int) = 0 := by omega
    clear hws
    go_wp2_with fail
    go_ret
    rw [HE.out]
    exact ⟨_, rfl, item_oneV (V_nil _) (V_nil _) HB1.out.size, below_alloc HB1.out _⟩
  · have hq0 : ((ws.length : Int) == 0) = false := beq_false_of_ne (by omega)
    clear hws hX hXf
    have KXH := Lib.hid KX
    clear KX
    obtain ⟨gl, capl, hvl, hgl, hget⟩ := line_own HO1.out (by omega)
    injection hvl with hvl1 _ hvl2
    subst hvl1 hvl2
    have HGET := Lib.hid hget
    clear hget
    go_wp2_with fail
    go_loopw [6, 7] (fun out i wr => ∃ k : Nat, i = .int .i64 (k : Int) ∧ Aside0 (k ≤ ws.length) ∧ Aside0 (Pl.badAt num (ws.take k) = none) ∧ Aside0 (Own kBytes 22 wr w1.heap.size out (Pl.labs num (ws.take k))) ∧ Aside0 (Below w1.heap.size w1 wr)) (fun _ i _ => ws.length - (intOf i).toNat)
    case atStart => exact ⟨0, rfl, ⟨by omega⟩, ⟨rfl⟩, ⟨by simpa [Pl.labs] using Own.nil kBytes 22 w1 w1.heap.size⟩, ⟨Below.refl _ _⟩⟩
    case round =>
      obtain ⟨k, rfl, hk, hbad, HO, HB⟩ := hrel
      by_cases hlt : k < ws.length
      · obtain ⟨⟨x1, xb⟩, hxk⟩ : ∃ p, ws[k]? = some p := ⟨_, List.getElem?_eq_getElem hlt⟩
        obtain ⟨A2, c2, hVx, hx0, hx1⟩ := HGET.out k _ hxk
        have hx0' := (HB.out.cell (p := ⟨gl, k * 2, none⟩) hgl).trans hx0
        have hx1' := (HB.out.cell (p := ⟨gl, k * 2 + 1, none⟩) hgl).trans hx1
        have hzr : gl < wr.heap.size := Nat.lt_of_lt_of_le hgl HB.out.size
        have HVx := Lib.hid hVx
        have HXK := Lib.hid hxk
        clear hx0 hx1 hVx hxk
        go_wp2_with fail
        refine (rlabel_any _ xb num _ (Kd.V_mono (Kd.V_below HVx.out HB.out) (fun _ _ => trivial))).mono ?_
        rintro e W3 ⟨va, rfl, hoa, hba⟩
        obtain ⟨A4, c4, hva⟩ := Kd.N_slice hoa
        subst hva
        have hx0'' := (hba.cell (p := ⟨gl, k * 2, none⟩) hzr).trans hx0'
        clear hx0' hx1'
        have hzr3 : gl < W3.heap.size := Nat.lt_of_lt_of_le hzr hba.size
        have HBW := Lib.hid hba
        have HOA := Lib.hid hoa
        clear hba hoa
        have HB3 := Lib.hid (bthen HB1.out (bthen HB.out HBW.out))
        rcases hla : Pl.label xb num with _ | la
        · have HE := Lib.hid (Pl.adj_bad (num := num) HW.out (Pl.badAt_some HXK.out hbad.out hla))
          rw [hla] at HOA
          clear hla
          simp only [Option.isSome_none, Option.getD_none, List.length_nil] at HOA ⊢
          go_wp2_with fail
          go_ret
          rw [HE.out]
          exact ⟨_, rfl, item_oneV (V_nil _) (V_nil _) HB3.out.size, below_alloc HB3.out _⟩
        · have HN := Lib.hid (Pl.badAt_next HXK.out hbad.out hla)
          have HL := Lib.hid (Pl.labs_next HXK.out hla)
          rw [hla] at HOA
          clear hla hx0''
          simp only [Option.isSome_some, Option.getD_some] at HOA ⊢
          obtain ⟨L, hL⟩ : ∃ L, Pl.labs num (ws.take k) = L := ⟨_, rfl⟩
          have hml : L.length ≤ k := by
            rw [← hL, Pl.labs_len, List.length_take]
            omega
          rw [hL] at HL HO
          obtain ⟨A7, c7, hv7⟩ := Kd.N_slice HO.out
          subst hv7
          clear hL
          go_wp2_with ((with_reducible refine gate_builtin (b := .append) (xs := #[.tmp 46, .tmp 48]) rfl ?_); at_builtin; refine Kd.N_append kBytes (w0 := w1) w1.heap.size rfl (.tmp 46) (.tmp 48) 56 22 (.slice none 0 0) 24 rfl Try.underlying56 infoBytes rfl (by decide) (by omega) _ L la [.slice A4 la.length c4] (fun k => w1.heap.size ≤ k) (fun k => wr.heap.size ≤ k) rfl rfl ?aP ?aQ ?aF ?aO ?aB ?aS ?aL ?_; (case aP => exact bytes_FK HOA.out.v); (case aQ => exact fun j hj => ⟨Nat.le_trans HB.out.size hj, fun he => by have := HO.out.lt j he.symm; omega⟩); (case aF => exact fun j hj => Nat.le_trans (Nat.le_trans HB.out.size HBW.out.size) hj); (case aO => exact HO.out.below HBW.out); (case aB => exact bthen HB.out HBW.out); (case aS => exact Nat.le_trans HB.out.size HBW.out.size); (case aL => omega); intro v9 w9 ho9 hb9 hg9 hat9)
          go_roundw
          case rel => exact ⟨k + 1, by go_num, ⟨by omega⟩, ⟨HN.out⟩, ⟨by rw [HL.out]; exact ho9⟩, ⟨hb9⟩⟩
          case measure => simp [intOf]; omega
      · obtain rfl : k = ws.length := by have := hk.out; omega
        rw [List.take_of_length_le (Nat.le_refl _)] at hbad HO
        have HBf := Lib.hid (bthen HB1.out HB.out)
        obtain ⟨L, hL⟩ : ∃ L, Pl.labs num ws = L := ⟨_, rfl⟩
        have hLl : L.length = ws.length := by rw [← hL, Pl.labs_len]
        have HLw := Lib.hid hL
        rw [hL] at HO
        obtain ⟨gb, capb, hvb, hgb, hgetb⟩ := bytes_own HO.out (by omega)
        rw [hLl] at hvb
        subst hvb
        obtain ⟨a, r, hLr⟩ : ∃ a r, L = a :: r := by
          rcases L with _ | ⟨a, r⟩
          · simp at hLl; omega
          · exact ⟨a, r, rfl⟩
        obtain ⟨A6, c6, hV0, hc0'⟩ := hgetb 0 a (by rw [hLr]; rfl)
        have HV0 := Lib.hid hV0
        clear hL
        by_cases h1 : ws.length = 1
        · have HE := Lib.hid (Pl.adj_one (num := num) HW.out h1 hbad.out)
          have hw1 : (ws.length : Int) = 1 := by omega
          have hd0 : (0 : Int) < (ws.length : Int) := by omega
          clear hV0 hgetb hLl
          have HLr := Lib.hid hLr
          clear hLr
          go_wp2_with fail
          go_ret
          rw [HE.out, HLw.out, HLr.out]
          exact ⟨_, rfl, item_oneV (Kd.V_mono HV0.out (fun k hk => Nat.le_trans HB1.out.size hk)) (V_nil _) HBf.out.size, below_alloc HBf.out _⟩
        · have HE := Lib.hid (Pl.adj_more (num := num) HW.out (by omega) hbad.out)
          have hw1 : ((ws.length : Int) == 1) = false := beq_false_of_ne (by omega)
          have HLr := Lib.hid hLr
          have HGB := Lib.hid hgetb
          have HC0 := Lib.hid hc0'
          clear hV0 hgetb hLr hc0'
          go_wp2_with fail
          obtain ⟨wb, hwb⟩ : ∃ x, x = wr := ⟨_, rfl⟩
          subst hwb
          have hrl : r.length + 1 = ws.length := by rw [← hLl, HLr.out]; simp
          go_loopw [10, 11] (fun out i wr => ∃ k : Nat, i = .int .i64 ((k : Int) + 1) ∧ Aside0 (k ≤ r.length) ∧ Aside0 (Kd.N kItem 36 wr wb.heap.size (fun k => w1.heap.size ≤ k) out ((r.take k).map fun b => (true, a, b, 0, 0))) ∧ Aside0 (Below wb.heap.size wb wr)) (fun _ i _ => ws.length - (intOf i).toNat)
          case atStart => exact ⟨0, rfl, ⟨by omega⟩, ⟨by simpa using Kd.N_nil kItem 36 wb wb.heap.size (fun k => w1.heap.size ≤ k)⟩, ⟨Below.refl _ _⟩⟩
          case round =>
            obtain ⟨k, rfl, hk2, HO2, HB2⟩ := hrel
            by_cases hlt2 : k < r.length
            · obtain ⟨b, hbk⟩ : ∃ b, r[k]? = some b := ⟨_, List.getElem?_eq_getElem hlt2⟩
              obtain ⟨A8, c8, hV8, hc8⟩ := HGB.out (k + 1) b (by rw [HLr.out]; simpa using hbk)
              have HV8 := Lib.hid hV8
              have hT : (r.take (k + 1)).map (fun b => ((true, a, b, 0, 0) : Pl.ItT)) = (r.take k).map (fun b => ((true, a, b, 0, 0) : Pl.ItT)) ++ [(true, a, b, 0, 0)] := by
                rw [Pl.takeD hbk, List.map_append]; rfl
              have HT := Lib.hid hT
              have hx0 := (HB2.out.drew.cell (p := ⟨gb, 0, none⟩) hgb).trans HC0.out
              have hx1 := (HB2.out.drew.cell (p := ⟨gb, k + 1, none⟩) hgb).trans hc8
              have HC8 := Lib.hid hc8
              have hln : ((r.take k).map (fun b => ((true, a, b, 0, 0) : Pl.ItT))).length ≤ k := by simp; omega
              obtain ⟨M, hM⟩ : ∃ M, (r.take k).map (fun b => ((true, a, b, 0, 0) : Pl.ItT)) = M := ⟨_, rfl⟩
              rw [hM] at HT HO2 hln
              have hd1 : decide ((k : Int) + 1 < (ws.length : Int)) = true := by simp; omega
              have q1 : (0 : Int) ≤ (k : Int) + 1 := by omega
              have q2 : (k : Int) + 1 < (ws.length : Int) := by omega
              have q3 : ((k : Int) + 1).toNat = k + 1 := by omega
              have q4 : (0 : Int) < (ws.length : Int) := by omega
              have q5 : 0 < ws.length := by omega
              clear hV8 hc8 hT hM hbk
              go_wp2_with fail
              go_region_held3 (fun W => W.cell? ⟨gb, 0, none⟩ = some (.slice A6 a.length c6) ∧ W.cell? ⟨gb, k + 1, none⟩ = some (.slice A8 b.length c8)) (first | exact ⟨hx0, hx1⟩ | exact ⟨((HB2.out.alloc HB2.out.size _).drew.cell (p := ⟨gb, 0, none⟩) hgb).trans HC0.out, ((HB2.out.alloc HB2.out.size _).drew.cell (p := ⟨gb, k + 1, none⟩) hgb).trans HC8.out⟩ | exact ⟨(hb9.cell (p := ⟨gb, 0, none⟩) hgb).trans HC0.out, (hb9.cell (p := ⟨gb, k + 1, none⟩) hgb).trans HC8.out⟩ | go_keep)
                (first | (refine Kd.N_append_step kItem (w0 := wb) (W := wr.drew) wb.heap.size rfl (.tmp 64) (.tmp 73) 29 36 (.agg #[.bool false, .slice none 0 0, .slice none 0 0, .int .i64 0, .int .i64 0]) 72 rfl Try.underlying29 infoItem5 rfl (by decide) (by omega) _ M (true, a, b, 0, 0) [.bool true, .slice A6 a.length c6, .slice A8 b.length c8, .int .i64 0, .int .i64 0] (fun k => w1.heap.size ≤ k) (fun j => w1.heap.size ≤ j ∧ j < wb.heap.size) rfl rfl ?aP ?aQ ?aF ?aO ?aB ?aS ?aL ?_; (case aP => exact item_FK (Kd.V_below (Kd.V_mono (Kd.V_bound HV0.out) (fun j hj => hj)) HB2.out.drew) (Kd.V_below (Kd.V_mono (Kd.V_bound HV8.out) (fun j hj => hj)) HB2.out.drew)); (case aQ => exact fun j hj => ⟨hj.1, fun he => by have := Kd.N_base HO2.out j he.symm; omega⟩); (case aF => exact fun j hj => by have := HB.out.size; have := HB2.out.size; simp at hj; omega); (case aO => exact Kd.N_drew HO2.out); (case aB => exact HB2.out.drew); (case aS => exact HB2.out.drew.size); (case aL => omega); intro v9 w9 ho9 hb9 hg9 hat9))
              go_wp2
              go_roundw
              case rel => exact ⟨k + 1, by go_num, ⟨by omega⟩, ⟨by rw [HT.out]; exact ho9⟩, ⟨hb9⟩⟩
              case measure => simp [intOf]; omega
            · obtain rfl : k = r.length := by have := hk2.out; omega
              have hd1 : decide ((r.length : Int) + 1 < (ws.length : Int)) = false := by simp; omega
              rw [List.take_of_length_le (Nat.le_refl _)] at HO2
              go_wp2_with fail
              go_ret
              rw [HE.out, HLw.out, HLr.out]
              exact ⟨_, rfl, Kd.V_mono (n_V0 HO2.out) (fun k hk => Nat.le_trans HB1.out.size hk), bthen HBf.out HB2.out⟩
end Go.Proofs.Ytchbfeejpdfmhaa
