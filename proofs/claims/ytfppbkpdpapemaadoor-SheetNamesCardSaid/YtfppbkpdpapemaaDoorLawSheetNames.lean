import Derived.Test.YtfppbkpdpapemaaDoorLaw20
import Derived.Test.YtfppbkpdpapemaaDoorCfgEq
import Derived.Test.YtfppbkpdpapemaaDoorLawSheetNotes
import Derived.Maps.OwnOps
import Derived.Maps.Views
import Derived.Maps.AppendAt
/-! The law SheetNames, walked. -/
set_option linter.unusedSimpArgs false
set_option linter.unusedVariables false
namespace Go.Proofs.YtfppbkpdpapemaaDoor
open Go.RowKit Go.Proofs.YtfppbkpdpapemaaDoorW.PrintWords Go.Proofs.YtfppbkpdpapemaaDoorW.PrintLast Go.Proofs.YtfppbkpdpapemaaDoorW.PrintMore

namespace Pl
/-- the names of so many shards -/
def nm (n : Nat) (b : Bool) : List (List UInt8) := [[108, 97, 98, 101, 108, 115]] ++ (List.range n).map (fun i => [115, 46] ++ digs i) ++ (if b then (List.range n).map (fun i => [116, 46] ++ digs i) else [])
def nmGood (s : List UInt8) : Bool := decide (3 ≤ s.length) && decide (s.length ≤ 6) && s != [105, 110] && s != [116, 109, 112] && s != [109, 97, 110, 105, 102, 101, 115, 116] && s != [106, 111, 117, 114, 110, 97, 108]
theorem nm_good : ∀ (n : Fin 17) (b : Bool), (nm n.val b).all nmGood = true ∧ (nm n.val b).Nodup := by decide +kernel
theorem names_nm {c : Cfg} (h : right c = true) : names c = nm c.sha.toNat c.back ∧ (names c).all nmGood = true ∧ (names c).Nodup ∧ ((names c).length : Int) = 1 + c.sha + (if c.back then c.sha else 0) ∧ (names c)[0]? = some [108, 97, 98, 101, 108, 115] := by
  have hb := right_bounds h
  have e : names c = nm c.sha.toNat c.back := by rw [names_right h]; rfl
  obtain ⟨g1, g2⟩ := nm_good ⟨c.sha.toNat, by omega⟩ c.back
  rw [e]
  refine ⟨rfl, g1, g2, ?_, by simp [nm]⟩
  unfold nm
  cases c.back <;> simp <;> omega
theorem nodup_at {l : List (List UInt8)} (h : l.Nodup) {k : Nat} {s : List UInt8} (hs : l[k]? = some s) : s ∉ l.take k := by
  intro hm
  obtain ⟨j, hj⟩ := List.mem_iff_getElem?.1 hm
  have hjk : j < k := by
    rcases Nat.lt_or_ge j k with h' | h'
    · exact h'
    · rw [List.getElem?_take] at hj
      simp at hj
      omega
  rw [List.getElem?_take, if_pos hjk] at hj
  obtain ⟨h1, e1⟩ := List.getElem?_eq_some_iff.1 hj
  obtain ⟨h2, e2⟩ := List.getElem?_eq_some_iff.1 hs
  exact List.pairwise_iff_getElem.1 h j k h1 h2 hjk (e1.trans e2.symm)
end Pl
/-- A look-up of a bool in a map of the call's own. -/
theorem lookup_bool {P : Program} {w : World} {k e t : TypeId} {b n : Nat} {D : DataW Unit} (h : w.ownsMap P k (plainElem P e) b n D) (K : Maps.Keyed P k) (ht : P.underlying t = some (.map k e)) (he : P.underlying e = some .bool) (hz : (zeroValue e).run P w = .ok (.bool false) w)
    {key : Value} {kl : Lit} (hkey : keyOf P k key = some kl) (hD : D.atKey kl (.lit (.bool false)) = .lit (.bool false)) : (Instr.lookup t (.map (some b)) key false).run P w = .ok (.bool false) w := by
  obtain ⟨v, ps, hrun, hv⟩ := h.lookup K ht hz (plainElem_bool he false) hkey
  rw [hD] at hv
  have : v = .bool false := by
    unfold plainElem at hv
    rw [he] at hv
    split at hv <;> simp_all
  rw [this] at hrun
  exact hrun
/-- Between two rounds of SheetNames. -/
structure SeenI (W wr : World) (B : Nat) (l : List (List UInt8)) (k : Nat) : Prop where
  g : W.grownBy wr (some B)
  m : ∃ D : DataW Unit, wr.ownsMap Tryd.prog 9 (plainElem Tryd.prog 4) B k D ∧ ∀ s, s ∉ l.take k → D.atKey (.string s) (.lit (.bool false)) = .lit (.bool false)

set_option maxRecDepth 100000 in
set_option maxHeartbeats 4000000 in
theorem sheetNames_walk (c : Pl.Cfg) (w : World) (hc : CfgIn c) :
    Calls Tryd.prog 3 #[cfgV c] w fun e w' => e = .returned (.bool true) ∧ Below w.heap.size w w' := by
  have HC := Lib.hid hc
  clear hc
  go_enter Tryd.func3, Tryd.ntmps3
  go_wp2_with fail
  refine calls_at fun W1 hW1 => ?_
  have hb1 : Below w.heap.size w W1 := by rw [← hW1]; exact below_alloc (Below.refl _ _) _
  have K1 : Blk W1 w.heap.size (cfgA c) 23 := by rw [← hW1]; exact Blk.new _ _ _
  clear hW1
  refine (shown20_any W1).mono ?_
  rintro e w2 ⟨rfl, hb2⟩
  have B2 := Lib.hid (bthen hb1 hb2)
  have L1 := K1.belowW hb2
  have q0 := L1.cell.1 0
  have q1 := L1.cell.1 1
  have q2 := L1.cell.1 2
  have q3 := L1.cell.1 3
  have q4 := L1.cell.1 4
  have q5 := L1.cell.1 5
  have q6 := L1.cell.1 6
  have q7 := L1.cell.1 7
  have q8 := L1.cell.1 8
  clear K1 hb1 hb2
  go_wp2_with fail
  clear q0 q1 q2 q3 q4 q5 q6 q7 q8
  refine (names_any c w2).mono ?_
  rintro e w3 ⟨v3, rfl, ho3, hb3⟩
  have B3 := Lib.hid (bthen B2.out hb3)
  have L3 := L1.belowW hb3
  have hs3 := hb3.size
  have hlt3 : w.heap.size < w2.heap.size := L1.lt
  clear L1 hb3
  have q0 := L3.cell.1 0
  have q1 := L3.cell.1 1
  have q2 := L3.cell.1 2
  have q3 := L3.cell.1 3
  have q4 := L3.cell.1 4
  have q5 := L3.cell.1 5
  have q6 := L3.cell.1 6
  have q7 := L3.cell.1 7
  have q8 := L3.cell.1 8
  rcases hr : Pl.right c with _ | _
  · rw [Pl.names_wrong hr] at ho3
    obtain ⟨A3, c3, hv3⟩ := Kd.N_slice ho3
    rw [List.length_nil] at hv3
    subst hv3
    have hN := note_any c 0 0 w3 HC.out (by omega) (by omega) (by omega)
    rw [Pl.note_none hr] at hN
    have HN := Lib.hid hN
    clear hN hr ho3 hs3 hlt3
    go_wp2_with fail
    refine HN.out.mono ?_
    rintro e w4 ⟨v4, rfl, ho4, hb4⟩
    have B4 := Lib.hid (bthen B3.out hb4)
    clear ho4 hb4 q0 q1 q2 q3 q4 q5 q6 q7 q8
    simp only [Option.isSome_none]
    go_wp2_with fail
    go_ret
    exact ⟨rfl, B4.out⟩
  · have hbd := Pl.right_bounds hr
    obtain ⟨_, hg, hnd, hlen, h0⟩ := Pl.names_nm hr
    have hN := fun W => note_any c 0 0 W HC.out (by omega) (by omega) (by omega)
    rw [Pl.note_some (by omega) hr] at hN
    have HN := Lib.hid hN
    obtain ⟨l, hl⟩ : ∃ l, Pl.names c = l := ⟨_, rfl⟩
    rw [hl] at ho3 hg hnd hlen h0
    have hp : 0 < l.length := by have := hbd.2.2.2.2.1; split at hlen <;> omega
    obtain ⟨gl, cl, hv3, hgl0, hgl, hcell⟩ := strS_form ho3 hp
    subst hv3
    have HCE := Lib.hid hcell
    have HG := Lib.hid hg
    have HND := Lib.hid hnd
    have H0 := Lib.hid h0
    have HLN := Lib.hid hlen
    have HBD := Lib.hid hbd
    have hl0 : ((l.length : Int) == 0) = false := beq_false_of_ne (by omega)
    have z1 := hbd.2.2.2.2.1
    have z2 := hbd.2.2.2.2.2
    clear hN hr hl hg hnd h0 hcell ho3 hlen hbd
    have hmm := @run_makeMap Tryd.prog
    obtain ⟨bk, hbk⟩ : ∃ b, c.back = b := ⟨_, rfl⟩
    have HBK := Lib.hid hbk
    rw [show (cfgA c)[5]? = some (Value.bool c.back) from rfl, hbk] at q5
    clear hbk
    cases bk with
    | false =>
      have hlen : (l.length : Int) = 1 + c.sha := by have := HLN.out; rw [HBK.out] at this; simpa using this
      have HL2 := Lib.hid hlen
      have hl33 : l.length ≤ 100 := by omega
      clear hlen
      go_wp2_with fail
      clear q0 q1 q2 q3 q4 q5 q6 q7 q8 hmm
      refine wp_at fun W4 hW4 => ?_
      have hb4 : Below w3.heap.size w3 W4 := by rw [← hW4]; exact below_alloc (Below.refl _ _) _
      have hM4 : W4.ownsMap (H := Unit) Tryd.prog 9 (plainElem Tryd.prog 4) w3.heap.size 0 (.map []) := by rw [← hW4]; exact World.ownsMap_made _ _ _ _
      have L4 := L3.belowW hb4
      have B4 := Lib.hid (bthen B3.out hb4)
      have HCE4 : ∀ (i : Nat) (x : List UInt8), l[i]? = some x → W4.cell? ⟨gl, i, none⟩ = some (strV x) := fun i x hx => (hb4.cell (p := ⟨gl, i, none⟩) hgl).trans (HCE.out i x hx)
      have HC4 := Lib.hid HCE4
      have hI : SeenI W4 W4 w3.heap.size l 0 := ⟨World.grownBy.refl _ _, _, hM4, fun s _ => rfl⟩
      have HI := Lib.hid hI
      have HB4 := Lib.hid hb4
      have hglne : gl ≠ w3.heap.size := by omega
      have hcne : w.heap.size ≠ w3.heap.size := by omega
      clear hI hW4 HCE4 hb4 hM4 L3
      obtain ⟨Bm, hBm⟩ : ∃ Bm, w3.heap.size = Bm := ⟨_, rfl⟩
      rw [hBm] at HI hglne hcne ⊢
      have hbm : w.heap.size ≤ Bm := by omega
      clear hBm
      go_loopw [41] (fun i wr => ∃ k : Nat, i = .int .i64 (k : Int) ∧ Aside0 (k ≤ l.length) ∧ Aside0 (SeenI W4 wr Bm l k)) (fun i _ => l.length - (intOf i).toNat)
      case atStart => exact ⟨0, rfl, ⟨by omega⟩, ⟨HI.out⟩⟩
      case round =>
        obtain ⟨k, rfl, hk, HS⟩ := hrel
        by_cases hlt : k < l.length
        · obtain ⟨s, hs⟩ : ∃ s, l[k]? = some s := ⟨_, List.getElem?_eq_getElem hlt⟩
          have hgs : Pl.nmGood s = true := List.all_eq_true.1 HG.out s (List.mem_of_getElem? hs)
          have hns := Pl.nodup_at HND.out hs
          have hcs := cell_grown HS.out.g (HC4.out k s hs) (by simpa using hglne)
          obtain ⟨D, hD1, hD2⟩ := HS.out.m
          have hsl : s.length ≤ 6 := by
            simp only [Pl.nmGood, Bool.and_eq_true, decide_eq_true_eq] at hgs
            exact hgs.1.1.1.1.2
          have hkey : keyOf Tryd.prog 9 (strV s) = some (.string s) := by
            have := WideMaps.keyOf_string_mk (P := Tryd.prog) Tryd.underlying9 (s := ⟨s.toArray⟩) (by show s.toArray.size ≤ maxLen; rw [List.size_toArray]; unfold maxLen; omega)
            simpa using this
          have hlook := lookup_bool hD1 (Maps.string_keyed Tryd.underlying9) Tryd.underlying31 Tryd.underlying4 (by kernel_rfl) hkey (hD2 s hns)
          simp only [Pl.nmGood, Bool.and_eq_true, decide_eq_true_eq, bne_iff_ne] at hgs
          obtain ⟨⟨⟨⟨⟨g1, g2⟩, g3⟩, g4⟩, g5⟩, g6⟩ := hgs
          have d1 : decide ((s.length : Int) < 3) = false := by simp; omega
          have d2 : decide ((32 : Int) < (s.length : Int)) = false := by simp; omega
          have e1 : (s == [105, 110]) = false := by simpa using g3
          have e2 : (s == [116, 109, 112]) = false := by simpa using g4
          have e3 : (s == [109, 97, 110, 105, 102, 101, 115, 116]) = false := by simpa using g5
          have e4 : (s == [106, 111, 117, 114, 110, 97, 108]) = false := by simpa using g6
          have HD1 := Lib.hid hD1
          have HD2 := Lib.hid hD2
          have HKY := Lib.hid hkey
          have HSK := Lib.hid hs
          have hw1 : IntKind.i64.wrap ((k : Int) + 1) = (k : Int) + 1 := IntWalk.i64_in _ (by omega)
          have hdk : decide ((k : Int) < (l.length : Int)) = true := by simpa using hlt
          clear g1 g2 g3 g4 g5 g6 hD1 hD2 hkey hs hns
          go_wp2_with (at_mapUpdate; refine wpList_mapUpdate_own _ rfl _ _ _ 31 rfl 9 4 (Maps.string_keyed Tryd.underlying9) Tryd.underlying31 (plainElem Tryd.prog 4) Bm k D rfl HD1.out (by unfold maxLen; omega) (strV s) (.bool true) (.string s) rfl rfl HKY.out (.lit (.bool true)) [] (plainElem_bool Tryd.underlying4 true) ?_; intro w6 hown6 hgrow6)
          go_roundw
          case rel =>
            refine ⟨k + 1, by go_num, ⟨by omega⟩, ⟨⟨HS.out.g.trans hgrow6, _, hown6, fun s' hs' => ?_⟩⟩⟩
            have ht : l.take (k + 1) = l.take k ++ [s] := Pl.takeD_ HSK.out
            rw [ht] at hs'
            simp only [List.mem_append, List.mem_singleton, not_or] at hs'
            rw [Maps.atKey_put_other (fun e => hs'.2 (by injection e))]
            exact HD2.out s' hs'.1
          case measure => simp [intOf]; omega
        · obtain rfl : k = l.length := by have := hk.out; omega
          have hdk : decide ((l.length : Int) < (l.length : Int)) = false := by simp
          have hsg := HS.out.g
          have HSG := Lib.hid hsg
          have q0 := cell_grown hsg (L4.cell.1 0) (by simpa using hcne)
          have q1 := cell_grown hsg (L4.cell.1 1) (by simpa using hcne)
          have q2 := cell_grown hsg (L4.cell.1 2) (by simpa using hcne)
          have q3 := cell_grown hsg (L4.cell.1 3) (by simpa using hcne)
          have q4 := cell_grown hsg (L4.cell.1 4) (by simpa using hcne)
          have q5 := cell_grown hsg (L4.cell.1 5) (by simpa using hcne)
          have q6 := cell_grown hsg (L4.cell.1 6) (by simpa using hcne)
          have q7 := cell_grown hsg (L4.cell.1 7) (by simpa using hcne)
          have q8 := cell_grown hsg (L4.cell.1 8) (by simpa using hcne)
          have hbw : Below w.heap.size w wr := B4.out.grown hsg (by have := B4.out.size; omega) (fun k he => by cases he; exact hbm)
          have HBW := Lib.hid hbw
          have hc0 := cell_grown hsg (HC4.out 0 _ H0.out) (by simpa using hglne)
          have HC0 := Lib.hid hc0
          clear hsg hbw hc0
          go_wp2_with fail
          clear q0 q1 q2 q3 q4 q5 q6 q7 q8
          refine (HN.out _).mono ?_
          rintro e w7 ⟨v7, rfl, ho7, hb7⟩
          have hc7 := (hb7.cell (p := ⟨gl, 0, none⟩) (World.block_lt_of_cell? _ _ HC0.out)).trans HC0.out
          have B7 := Lib.hid (bthen HBW.out hb7)
          have hl7 := HL2.out
          clear ho7 hb7
          simp only [Option.isSome_some]
          go_wp2_with fail
          go_ret
          exact ⟨by simp, B7.out⟩
    | true =>
      have hlen : (l.length : Int) = 1 + c.sha + c.sha := by have := HLN.out; rw [HBK.out] at this; simpa using this
      have HL2 := Lib.hid hlen
      have hl33 : l.length ≤ 100 := by omega
      clear hlen
      go_wp2_with fail
      clear q0 q1 q2 q3 q4 q5 q6 q7 q8 hmm
      refine wp_at fun W4 hW4 => ?_
      have hb4 : Below w3.heap.size w3 W4 := by rw [← hW4]; exact below_alloc (Below.refl _ _) _
      have hM4 : W4.ownsMap (H := Unit) Tryd.prog 9 (plainElem Tryd.prog 4) w3.heap.size 0 (.map []) := by rw [← hW4]; exact World.ownsMap_made _ _ _ _
      have L4 := L3.belowW hb4
      have B4 := Lib.hid (bthen B3.out hb4)
      have HCE4 : ∀ (i : Nat) (x : List UInt8), l[i]? = some x → W4.cell? ⟨gl, i, none⟩ = some (strV x) := fun i x hx => (hb4.cell (p := ⟨gl, i, none⟩) hgl).trans (HCE.out i x hx)
      have HC4 := Lib.hid HCE4
      have hI : SeenI W4 W4 w3.heap.size l 0 := ⟨World.grownBy.refl _ _, _, hM4, fun s _ => rfl⟩
      have HI := Lib.hid hI
      have HB4 := Lib.hid hb4
      have hglne : gl ≠ w3.heap.size := by omega
      have hcne : w.heap.size ≠ w3.heap.size := by omega
      clear hI hW4 HCE4 hb4 hM4 L3
      obtain ⟨Bm, hBm⟩ : ∃ Bm, w3.heap.size = Bm := ⟨_, rfl⟩
      rw [hBm] at HI hglne hcne ⊢
      have hbm : w.heap.size ≤ Bm := by omega
      clear hBm
      go_loopw [41] (fun i wr => ∃ k : Nat, i = .int .i64 (k : Int) ∧ Aside0 (k ≤ l.length) ∧ Aside0 (SeenI W4 wr Bm l k)) (fun i _ => l.length - (intOf i).toNat)
      case atStart => exact ⟨0, rfl, ⟨by omega⟩, ⟨HI.out⟩⟩
      case round =>
        obtain ⟨k, rfl, hk, HS⟩ := hrel
        by_cases hlt : k < l.length
        · obtain ⟨s, hs⟩ : ∃ s, l[k]? = some s := ⟨_, List.getElem?_eq_getElem hlt⟩
          have hgs : Pl.nmGood s = true := List.all_eq_true.1 HG.out s (List.mem_of_getElem? hs)
          have hns := Pl.nodup_at HND.out hs
          have hcs := cell_grown HS.out.g (HC4.out k s hs) (by simpa using hglne)
          obtain ⟨D, hD1, hD2⟩ := HS.out.m
          have hsl : s.length ≤ 6 := by
            simp only [Pl.nmGood, Bool.and_eq_true, decide_eq_true_eq] at hgs
            exact hgs.1.1.1.1.2
          have hkey : keyOf Tryd.prog 9 (strV s) = some (.string s) := by
            have := WideMaps.keyOf_string_mk (P := Tryd.prog) Tryd.underlying9 (s := ⟨s.toArray⟩) (by show s.toArray.size ≤ maxLen; rw [List.size_toArray]; unfold maxLen; omega)
            simpa using this
          have hlook := lookup_bool hD1 (Maps.string_keyed Tryd.underlying9) Tryd.underlying31 Tryd.underlying4 (by kernel_rfl) hkey (hD2 s hns)
          simp only [Pl.nmGood, Bool.and_eq_true, decide_eq_true_eq, bne_iff_ne] at hgs
          obtain ⟨⟨⟨⟨⟨g1, g2⟩, g3⟩, g4⟩, g5⟩, g6⟩ := hgs
          have d1 : decide ((s.length : Int) < 3) = false := by simp; omega
          have d2 : decide ((32 : Int) < (s.length : Int)) = false := by simp; omega
          have e1 : (s == [105, 110]) = false := by simpa using g3
          have e2 : (s == [116, 109, 112]) = false := by simpa using g4
          have e3 : (s == [109, 97, 110, 105, 102, 101, 115, 116]) = false := by simpa using g5
          have e4 : (s == [106, 111, 117, 114, 110, 97, 108]) = false := by simpa using g6
          have HD1 := Lib.hid hD1
          have HD2 := Lib.hid hD2
          have HKY := Lib.hid hkey
          have HSK := Lib.hid hs
          have hw1 : IntKind.i64.wrap ((k : Int) + 1) = (k : Int) + 1 := IntWalk.i64_in _ (by omega)
          have hdk : decide ((k : Int) < (l.length : Int)) = true := by simpa using hlt
          clear g1 g2 g3 g4 g5 g6 hD1 hD2 hkey hs hns
          go_wp2_with (at_mapUpdate; refine wpList_mapUpdate_own _ rfl _ _ _ 31 rfl 9 4 (Maps.string_keyed Tryd.underlying9) Tryd.underlying31 (plainElem Tryd.prog 4) Bm k D rfl HD1.out (by unfold maxLen; omega) (strV s) (.bool true) (.string s) rfl rfl HKY.out (.lit (.bool true)) [] (plainElem_bool Tryd.underlying4 true) ?_; intro w6 hown6 hgrow6)
          go_roundw
          case rel =>
            refine ⟨k + 1, by go_num, ⟨by omega⟩, ⟨⟨HS.out.g.trans hgrow6, _, hown6, fun s' hs' => ?_⟩⟩⟩
            have ht : l.take (k + 1) = l.take k ++ [s] := Pl.takeD_ HSK.out
            rw [ht] at hs'
            simp only [List.mem_append, List.mem_singleton, not_or] at hs'
            rw [Maps.atKey_put_other (fun e => hs'.2 (by injection e))]
            exact HD2.out s' hs'.1
          case measure => simp [intOf]; omega
        · obtain rfl : k = l.length := by have := hk.out; omega
          have hdk : decide ((l.length : Int) < (l.length : Int)) = false := by simp
          have hsg := HS.out.g
          have HSG := Lib.hid hsg
          have q0 := cell_grown hsg (L4.cell.1 0) (by simpa using hcne)
          have q1 := cell_grown hsg (L4.cell.1 1) (by simpa using hcne)
          have q2 := cell_grown hsg (L4.cell.1 2) (by simpa using hcne)
          have q3 := cell_grown hsg (L4.cell.1 3) (by simpa using hcne)
          have q4 := cell_grown hsg (L4.cell.1 4) (by simpa using hcne)
          have q5 := cell_grown hsg (L4.cell.1 5) (by simpa using hcne)
          have q6 := cell_grown hsg (L4.cell.1 6) (by simpa using hcne)
          have q7 := cell_grown hsg (L4.cell.1 7) (by simpa using hcne)
          have q8 := cell_grown hsg (L4.cell.1 8) (by simpa using hcne)
          have hbw : Below w.heap.size w wr := B4.out.grown hsg (by have := B4.out.size; omega) (fun k he => by cases he; exact hbm)
          have HBW := Lib.hid hbw
          have hc0 := cell_grown hsg (HC4.out 0 _ H0.out) (by simpa using hglne)
          have HC0 := Lib.hid hc0
          clear hsg hbw hc0
          go_wp2_with fail
          clear q0 q1 q2 q3 q4 q5 q6 q7 q8
          refine (HN.out _).mono ?_
          rintro e w7 ⟨v7, rfl, ho7, hb7⟩
          have hc7 := (hb7.cell (p := ⟨gl, 0, none⟩) (World.block_lt_of_cell? _ _ HC0.out)).trans HC0.out
          have B7 := Lib.hid (bthen HBW.out hb7)
          have hl7 := HL2.out
          clear ho7 hb7
          simp only [Option.isSome_some]
          go_wp2_with fail
          go_ret
          exact ⟨by simp, B7.out⟩
end Go.Proofs.YtfppbkpdpapemaaDoor
