import Derived.Test.YtchbfeejpdfmhaaFeedCfg
import Derived.Test.YtchbfeejpdfmhaaRList
import Derived.Test.YtchbfeejpdfmhaaRParse
import Derived.Test.YtchbfeejpdfmhaaRAdj
/-! creelref11.Right. -/
set_option linter.unusedSimpArgs false
set_option linter.unusedVariables false
namespace Go.Proofs.Ytchbfeejpdfmhaa
open Go.RowKit Go.Shelf Go.Proofs.YtchbfeejpdfmhaaW.PrintWords Go.Proofs.YtchbfeejpdfmhaaW.PrintLast Go.Proofs.YtchbfeejpdfmhaaW.PrintMore
attribute [local go_sem] max2_int min2_int max_two min_two

namespace Pl
theorem u8_int (x y : UInt8) : (x = y) ↔ ((x.toNat : Int) = (y.toNat : Int)) := by
  constructor
  · rintro rfl; rfl
  · intro h
    exact UInt8.toNat_inj.1 (by omega)
theorem right_iff (c : Cfg) : right c = decide ((((c.fmt.toNat : Int) = 1 ∨ (c.fmt.toNat : Int) = 2) ∨ ((c.fmt.toNat : Int) = 3 ∧ c.num = true)) ∧ 2 ≤ c.bud ∧ c.bud ≤ 4096 ∧ 2 ≤ c.fan ∧ c.fan ≤ 16 ∧ c.fan ≤ c.bud ∧ 1 ≤ c.sha ∧ c.sha ≤ 16) := by
  rw [Bool.eq_iff_iff]
  simp only [right, fmtOk, within, Bool.and_eq_true, Bool.or_eq_true, decide_eq_true_eq, beq_iff_eq]
  rw [u8_int c.fmt 1, u8_int c.fmt 2, u8_int c.fmt 3]
  rw [show (((1 : UInt8).toNat : Nat) : Int) = 1 from rfl, show (((2 : UInt8).toNat : Nat) : Int) = 2 from rfl, show (((3 : UInt8).toNat : Nat) : Int) = 3 from rfl]
  constructor
  · rintro ⟨⟨⟨h1, h2⟩, h3⟩, h4⟩
    exact ⟨h1, by omega, by omega, by omega, by omega, by omega, by omega, by omega⟩
  · rintro ⟨h1, h2, h3, h4, h5, h6, h7, h8⟩
    exact ⟨⟨⟨h1, by omega⟩, by omega⟩, by omega⟩
end Pl

set_option maxRecDepth 100000 in
set_option maxHeartbeats 4000000 in
theorem rright11_any (c : Pl.Cfg) (w : World) : Calls Try.prog 26 #[cfgV c] w fun e w' => e = .returned (.bool (Pl.right c)) ∧ Below w.heap.size w w' := by
  go_enter Try.func26, Try.ntmps26
  by_cases f1 : (c.fmt.toNat : Int) = 1
  · have g1 : ((c.fmt.toNat : Int) == 1) = true := by simpa using f1
    have HF := Lib.hid (.inl (.inl f1) : ((c.fmt.toNat : Int) = 1 ∨ (c.fmt.toNat : Int) = 2) ∨ ((c.fmt.toNat : Int) = 3 ∧ c.num = true))
    clear f1
    by_cases b1 : 2 ≤ c.bud
    · by_cases b2 : c.bud ≤ 4096
      · by_cases b3 : 2 ≤ c.fan
        · by_cases b4 : c.fan ≤ 16
          · by_cases b5 : c.fan ≤ c.bud
            · by_cases b6 : 1 ≤ c.sha
              · by_cases b7 : c.sha ≤ 16
                · have hR := Lib.hid (show Pl.right c = true by rw [Pl.right_iff]; exact decide_eq_true ⟨HF.out, b1, b2, b3, b4, b5, b6, b7⟩)
                  go_wp2_with fail
                  go_ret
                  exact ⟨by rw [hR.out]; rfl, below_alloc (Below.refl _ _) _⟩
                · have b7d : decide (c.sha ≤ 16) = false := decide_eq_false b7
                  have hR := Lib.hid (show Pl.right c = false by rw [Pl.right_iff]; exact decide_eq_false (fun hh => b7 hh.2.2.2.2.2.2.2))
                  go_wp2_with fail
                  go_ret
                  exact ⟨by rw [hR.out]; rfl, below_alloc (Below.refl _ _) _⟩
              · have b6d : decide (1 ≤ c.sha) = false := decide_eq_false b6
                have hR := Lib.hid (show Pl.right c = false by rw [Pl.right_iff]; exact decide_eq_false (fun hh => b6 hh.2.2.2.2.2.2.1))
                go_wp2_with fail
                go_ret
                exact ⟨by rw [hR.out]; rfl, below_alloc (Below.refl _ _) _⟩
            · have b5d : decide (c.fan ≤ c.bud) = false := decide_eq_false b5
              have hR := Lib.hid (show Pl.right c = false by rw [Pl.right_iff]; exact decide_eq_false (fun hh => b5 hh.2.2.2.2.2.1))
              go_wp2_with fail
              go_ret
              exact ⟨by rw [hR.out]; rfl, below_alloc (Below.refl _ _) _⟩
          · have b4d : decide (c.fan ≤ 16) = false := decide_eq_false b4
            have hR := Lib.hid (show Pl.right c = false by rw [Pl.right_iff]; exact decide_eq_false (fun hh => b4 hh.2.2.2.2.1))
            go_wp2_with fail
            go_ret
            exact ⟨by rw [hR.out]; rfl, below_alloc (Below.refl _ _) _⟩
        · have b3d : decide (2 ≤ c.fan) = false := decide_eq_false b3
          have hR := Lib.hid (show Pl.right c = false by rw [Pl.right_iff]; exact decide_eq_false (fun hh => b3 hh.2.2.2.1))
          go_wp2_with fail
          go_ret
          exact ⟨by rw [hR.out]; rfl, below_alloc (Below.refl _ _) _⟩
      · have b2d : decide (c.bud ≤ 4096) = false := decide_eq_false b2
        have hR := Lib.hid (show Pl.right c = false by rw [Pl.right_iff]; exact decide_eq_false (fun hh => b2 hh.2.2.1))
        go_wp2_with fail
        go_ret
        exact ⟨by rw [hR.out]; rfl, below_alloc (Below.refl _ _) _⟩
    · have b1d : decide (2 ≤ c.bud) = false := decide_eq_false b1
      have hR := Lib.hid (show Pl.right c = false by rw [Pl.right_iff]; exact decide_eq_false (fun hh => b1 hh.2.1))
      go_wp2_with fail
      go_ret
      exact ⟨by rw [hR.out]; rfl, below_alloc (Below.refl _ _) _⟩
  · have g1 : ((c.fmt.toNat : Int) == 1) = false := by simpa using f1
    by_cases f2 : (c.fmt.toNat : Int) = 2
    · have g2 : ((c.fmt.toNat : Int) == 2) = true := by simpa using f2
      have HF := Lib.hid (.inl (.inr f2) : ((c.fmt.toNat : Int) = 1 ∨ (c.fmt.toNat : Int) = 2) ∨ ((c.fmt.toNat : Int) = 3 ∧ c.num = true))
      clear f1 f2
      by_cases b1 : 2 ≤ c.bud
      · by_cases b2 : c.bud ≤ 4096
        · by_cases b3 : 2 ≤ c.fan
          · by_cases b4 : c.fan ≤ 16
            · by_cases b5 : c.fan ≤ c.bud
              · by_cases b6 : 1 ≤ c.sha
                · by_cases b7 : c.sha ≤ 16
                  · have hR := Lib.hid (show Pl.right c = true by rw [Pl.right_iff]; exact decide_eq_true ⟨HF.out, b1, b2, b3, b4, b5, b6, b7⟩)
                    go_wp2_with fail
                    go_ret
                    exact ⟨by rw [hR.out]; rfl, below_alloc (Below.refl _ _) _⟩
                  · have b7d : decide (c.sha ≤ 16) = false := decide_eq_false b7
                    have hR := Lib.hid (show Pl.right c = false by rw [Pl.right_iff]; exact decide_eq_false (fun hh => b7 hh.2.2.2.2.2.2.2))
                    go_wp2_with fail
                    go_ret
                    exact ⟨by rw [hR.out]; rfl, below_alloc (Below.refl _ _) _⟩
                · have b6d : decide (1 ≤ c.sha) = false := decide_eq_false b6
                  have hR := Lib.hid (show Pl.right c = false by rw [Pl.right_iff]; exact decide_eq_false (fun hh => b6 hh.2.2.2.2.2.2.1))
                  go_wp2_with fail
                  go_ret
                  exact ⟨by rw [hR.out]; rfl, below_alloc (Below.refl _ _) _⟩
              · have b5d : decide (c.fan ≤ c.bud) = false := decide_eq_false b5
                have hR := Lib.hid (show Pl.right c = false by rw [Pl.right_iff]; exact decide_eq_false (fun hh => b5 hh.2.2.2.2.2.1))
                go_wp2_with fail
                go_ret
                exact ⟨by rw [hR.out]; rfl, below_alloc (Below.refl _ _) _⟩
            · have b4d : decide (c.fan ≤ 16) = false := decide_eq_false b4
              have hR := Lib.hid (show Pl.right c = false by rw [Pl.right_iff]; exact decide_eq_false (fun hh => b4 hh.2.2.2.2.1))
              go_wp2_with fail
              go_ret
              exact ⟨by rw [hR.out]; rfl, below_alloc (Below.refl _ _) _⟩
          · have b3d : decide (2 ≤ c.fan) = false := decide_eq_false b3
            have hR := Lib.hid (show Pl.right c = false by rw [Pl.right_iff]; exact decide_eq_false (fun hh => b3 hh.2.2.2.1))
            go_wp2_with fail
            go_ret
            exact ⟨by rw [hR.out]; rfl, below_alloc (Below.refl _ _) _⟩
        · have b2d : decide (c.bud ≤ 4096) = false := decide_eq_false b2
          have hR := Lib.hid (show Pl.right c = false by rw [Pl.right_iff]; exact decide_eq_false (fun hh => b2 hh.2.2.1))
          go_wp2_with fail
          go_ret
          exact ⟨by rw [hR.out]; rfl, below_alloc (Below.refl _ _) _⟩
      · have b1d : decide (2 ≤ c.bud) = false := decide_eq_false b1
        have hR := Lib.hid (show Pl.right c = false by rw [Pl.right_iff]; exact decide_eq_false (fun hh => b1 hh.2.1))
        go_wp2_with fail
        go_ret
        exact ⟨by rw [hR.out]; rfl, below_alloc (Below.refl _ _) _⟩
    · have g2 : ((c.fmt.toNat : Int) == 2) = false := by simpa using f2
      by_cases f3 : (c.fmt.toNat : Int) = 3
      · have g3 : ((c.fmt.toNat : Int) == 3) = true := by simpa using f3
        rcases hn : c.num with _ | _
        · have HN := Lib.hid (fun hh => hh.elim (fun h => h.elim f1 f2) (fun h => by rw [hn] at h; cases h.2) : ¬ (((c.fmt.toNat : Int) = 1 ∨ (c.fmt.toNat : Int) = 2) ∨ ((c.fmt.toNat : Int) = 3 ∧ c.num = true)))
          clear f1 f2 f3
          have hR := Lib.hid (show Pl.right c = false by rw [Pl.right_iff]; exact decide_eq_false (fun hh => HN.out hh.1))
          go_wp2_with fail
          go_ret
          exact ⟨by rw [hR.out]; rfl, below_alloc (Below.refl _ _) _⟩
        · have HF := Lib.hid (.inr ⟨f3, hn⟩ : ((c.fmt.toNat : Int) = 1 ∨ (c.fmt.toNat : Int) = 2) ∨ ((c.fmt.toNat : Int) = 3 ∧ c.num = true))
          clear f1 f2 f3
          by_cases b1 : 2 ≤ c.bud
          · by_cases b2 : c.bud ≤ 4096
            · by_cases b3 : 2 ≤ c.fan
              · by_cases b4 : c.fan ≤ 16
                · by_cases b5 : c.fan ≤ c.bud
                  · by_cases b6 : 1 ≤ c.sha
                    · by_cases b7 : c.sha ≤ 16
                      · have hR := Lib.hid (show Pl.right c = true by rw [Pl.right_iff]; exact decide_eq_true ⟨HF.out, b1, b2, b3, b4, b5, b6, b7⟩)
                        go_wp2_with fail
                        go_ret
                        exact ⟨by rw [hR.out]; rfl, below_alloc (Below.refl _ _) _⟩
                      · have b7d : decide (c.sha ≤ 16) = false := decide_eq_false b7
                        have hR := Lib.hid (show Pl.right c = false by rw [Pl.right_iff]; exact decide_eq_false (fun hh => b7 hh.2.2.2.2.2.2.2))
                        go_wp2_with fail
                        go_ret
                        exact ⟨by rw [hR.out]; rfl, below_alloc (Below.refl _ _) _⟩
                    · have b6d : decide (1 ≤ c.sha) = false := decide_eq_false b6
                      have hR := Lib.hid (show Pl.right c = false by rw [Pl.right_iff]; exact decide_eq_false (fun hh => b6 hh.2.2.2.2.2.2.1))
                      go_wp2_with fail
                      go_ret
                      exact ⟨by rw [hR.out]; rfl, below_alloc (Below.refl _ _) _⟩
                  · have b5d : decide (c.fan ≤ c.bud) = false := decide_eq_false b5
                    have hR := Lib.hid (show Pl.right c = false by rw [Pl.right_iff]; exact decide_eq_false (fun hh => b5 hh.2.2.2.2.2.1))
                    go_wp2_with fail
                    go_ret
                    exact ⟨by rw [hR.out]; rfl, below_alloc (Below.refl _ _) _⟩
                · have b4d : decide (c.fan ≤ 16) = false := decide_eq_false b4
                  have hR := Lib.hid (show Pl.right c = false by rw [Pl.right_iff]; exact decide_eq_false (fun hh => b4 hh.2.2.2.2.1))
                  go_wp2_with fail
                  go_ret
                  exact ⟨by rw [hR.out]; rfl, below_alloc (Below.refl _ _) _⟩
              · have b3d : decide (2 ≤ c.fan) = false := decide_eq_false b3
                have hR := Lib.hid (show Pl.right c = false by rw [Pl.right_iff]; exact decide_eq_false (fun hh => b3 hh.2.2.2.1))
                go_wp2_with fail
                go_ret
                exact ⟨by rw [hR.out]; rfl, below_alloc (Below.refl _ _) _⟩
            · have b2d : decide (c.bud ≤ 4096) = false := decide_eq_false b2
              have hR := Lib.hid (show Pl.right c = false by rw [Pl.right_iff]; exact decide_eq_false (fun hh => b2 hh.2.2.1))
              go_wp2_with fail
              go_ret
              exact ⟨by rw [hR.out]; rfl, below_alloc (Below.refl _ _) _⟩
          · have b1d : decide (2 ≤ c.bud) = false := decide_eq_false b1
            have hR := Lib.hid (show Pl.right c = false by rw [Pl.right_iff]; exact decide_eq_false (fun hh => b1 hh.2.1))
            go_wp2_with fail
            go_ret
            exact ⟨by rw [hR.out]; rfl, below_alloc (Below.refl _ _) _⟩
      · have g3 : ((c.fmt.toNat : Int) == 3) = false := by simpa using f3
        have HN := Lib.hid (fun hh => hh.elim (fun h => h.elim f1 f2) (fun h => f3 h.1) : ¬ (((c.fmt.toNat : Int) = 1 ∨ (c.fmt.toNat : Int) = 2) ∨ ((c.fmt.toNat : Int) = 3 ∧ c.num = true)))
        clear f1 f2 f3
        have hR := Lib.hid (show Pl.right c = false by rw [Pl.right_iff]; exact decide_eq_false (fun hh => HN.out hh.1))
        go_wp2_with fail
        go_ret
        exact ⟨by rw [hR.out]; rfl, below_alloc (Below.refl _ _) _⟩
end Go.Proofs.Ytchbfeejpdfmhaa
/-! creelref11.List. -/
set_option linter.unusedSimpArgs false
set_option linter.unusedVariables false
namespace Go.Proofs.Ytchbfeejpdfmhaa
open Go.RowKit Go.Shelf Go.Proofs.YtchbfeejpdfmhaaW.PrintWords Go.Proofs.YtchbfeejpdfmhaaW.PrintLast Go.Proofs.YtchbfeejpdfmhaaW.PrintMore
attribute [local go_sem] max2_int min2_int max_two min_two

/-- What creelref11.raw answers. -/
def RRaw : Prop := ∀ (v : Value) (b : List UInt8) (c : Pl.Cfg) (w : World), Rd kb w v b → b.length ≤ 1000 → Calls Try.prog 38 #[v, cfgV c] w fun e w' => ∃ v', e = .returned v' ∧ Own kItem 36 w' w.heap.size v' (Pl.rawItems b c) ∧ Below w.heap.size w w'

set_option maxRecDepth 100000 in
set_option maxHeartbeats 2000000 in
theorem rlist11_of (HRAW : RRaw) (v : Value) (b : List UInt8) (c : Pl.Cfg) (w : World) (hv : Rd kb w v b) (hl : b.length ≤ 1000) :
    Calls Try.prog 27 #[v, cfgV c] w fun e w' => ∃ v', e = .returned v' ∧ Own kItem 36 w' w.heap.size v' (Pl.items b c) ∧ Below w.heap.size w w' := by
  have HR := Lib.hid hv
  obtain ⟨A0, c0, rfl, hc0, _⟩ := hv
  go_enter Try.func27, Try.ntmps27
  go_wp2_with fail
  refine calls_at fun W1 hW1 => ?_
  have hb1 : Below w.heap.size w W1 := by rw [← hW1]; exact below_alloc (Below.refl _ _) _
  have K1 : Blk W1 w.heap.size (cfgC c) 40 := by rw [← hW1]; exact Blk.new _ _ _
  clear hW1
  refine (rright11_any c W1).mono ?_
  rintro e W2 ⟨rfl, hb2⟩
  have K2 := K1.belowW hb2
  have hbw2 := bthen hb1 hb2
  clear hb1 hb2 K1
  rcases hr : Pl.right c with _ | _
  · have hi := (Pl.fails_wrong b c hr).2
    have HI := Lib.hid hi
    have HB := Lib.hid hbw2
    clear hr hi
    go_wp2_with fail
    go_ret
    rw [HI.out]
    exact ⟨_, rfl, Own.nil _ _ _ _, HB.out⟩
  · have HIT := Lib.hid (show Pl.items b c = Pl.cutBad c.skip (Pl.rawItems b c) by unfold Pl.items; rw [if_pos hr])
    clear hr
    obtain ⟨q0, q1, q2, q3, q4, q5, q6, q7, q8⟩ := cfgAt_of K2
    go_wp2_with fail
    refine (HRAW _ b c W2 (Rd.below HR.out hbw2) hl).mono ?_
    rintro e w3 ⟨v3, rfl, ho3, hb3⟩
    obtain ⟨A3, c3, hv3⟩ := Kd.N_slice ho3
    have hb3' := hb3.size
    have hbw2' := hbw2.size
    subst hv3
    have K3 := K2.belowW hb3
    have hbw3 := Lib.hid (bthen hbw2 hb3)
    have q2' := K3.cell.1 2
    have hsz := K3.lt
    have hlen := Pl.raw_len b c
    obtain ⟨L, hL⟩ : ∃ L, Pl.rawItems b c = L := ⟨_, rfl⟩
    rw [hL] at ho3 hlen HIT ⊢
    clear hL q0 q1 q2 q3 q4 q5 q6 q7 q8 K2 hb3 hbw2
    have HO3 := Lib.hid ho3
    have HV3 := Lib.hid (Kd.V_mono (Kd.V_bound (Own.v ho3)) (fun k hk => hk) : Kd.V kItem 0 w3 0 (fun k => W2.heap.size ≤ k ∧ k < w3.heap.size) _ _)
    have hwb : w.heap.size ≤ w3.heap.size := hbw3.out.size
    have hl5 : L.length ≤ 1001 := by omega
    have h23 : W2.heap.size ≤ w3.heap.size := hb3'
    have hw2 : w.heap.size ≤ W2.heap.size := hbw2'
    clear ho3
    go_wp2_with fail
    go_loopw [5, 7, 8] (fun o i bd wr => ∃ k : Nat, i = .int .i64 (k : Int) ∧ Aside0 (k ≤ L.length) ∧ Aside0 (Own kItem 36 wr W2.heap.size o ((L.take k).filter Pl.goodT)) ∧ Aside0 (c.skip = false → ∀ x ∈ L.take k, Pl.goodT x = true) ∧ Aside0 (Below w3.heap.size w3 wr) ∧ Aside0 (∀ j, o.ownBlock = some j → w3.heap.size ≤ j)) (fun _ i _ _ => L.length - (intOf i).toNat)
    case atStart => exact ⟨0, rfl, ⟨by omega⟩, ⟨by simpa using Own.nil kItem 36 w3 W2.heap.size⟩, ⟨fun _ x hx => by simp at hx⟩, ⟨Below.refl _ _⟩, ⟨fun j hj => by simp [Value.ownBlock] at hj⟩⟩
    case round =>
      obtain ⟨k, rfl, hk, HO, HS, HB, HW⟩ := hrel
      obtain ⟨Ao, co, hvo⟩ := Kd.N_slice HO.out
      subst hvo
      have hszr := HB.out.size
      by_cases hlt : k < L.length
      · obtain ⟨x, hx⟩ : ∃ x, L[k]? = some x := ⟨_, List.getElem?_eq_getElem hlt⟩
        obtain ⟨_, _, hFx⟩ := Kd.V_at HV3.out
        obtain ⟨ad, A1, c1, A2, c2, hAb, hV1, hV2, y0, y1, y2, y3, y4⟩ := item_get hFx k x hx
        subst hAb
        have hlB : (ad.add (k * 5)).block < w3.heap.size := World.block_lt_of_cell? _ _ y0
        have z0 := (HB.out.cell (p := ad.add (k * 5)) hlB).trans y0
        have z1 := (HB.out.cell (p := ⟨(ad.add (k * 5)).block, (ad.add (k * 5)).off + 1, none⟩) hlB).trans y1
        have z2 := (HB.out.cell (p := ⟨(ad.add (k * 5)).block, (ad.add (k * 5)).off + 2, none⟩) hlB).trans y2
        have z3 := (HB.out.cell (p := ⟨(ad.add (k * 5)).block, (ad.add (k * 5)).off + 3, none⟩) hlB).trans y3
        have z4 := (HB.out.cell (p := ⟨(ad.add (k * 5)).block, (ad.add (k * 5)).off + 4, none⟩) hlB).trans y4
        have zs : wr.cell? ⟨w.heap.size, 2, none⟩ = some (.bool c.skip) := (HB.out.cell (p := ⟨w.heap.size, 2, none⟩) hsz).trans q2'
        have HV1 := Lib.hid hV1
        have HV2 := Lib.hid hV2
        have q1 : (0 : Int) ≤ (k : Int) := by omega
        have q2 : (k : Int) < (L.length : Int) := by omega
        have htk := Lib.hid (Pl.takeD hx)
        have hfl : ((L.take k).filter Pl.goodT).length ≤ 1001 := Nat.le_trans (List.length_filter_le _ _) (by simp; omega)
        have HX := Lib.hid hx
        clear hFx hV1 hV2 y0 y1 y2 y3 y4 hx
        rcases hgd : Pl.goodT x with _ | _
        · have hz : (x.2.2.2.1 != 0) = true := by
            unfold Pl.goodT at hgd
            simpa using hgd
          have HGD := Lib.hid hgd
          clear hgd
          rcases hsk : c.skip with _ | _
          · rw [hsk] at zs
            have HSK := Lib.hid hsk
            clear hsk
            go_wp2_with ((with_reducible refine gate_builtin (b := .append) (xs := #[.tmp 32, .tmp 37]) rfl ?_); at_builtin; refine Kd.N_append kItem (w0 := w3) W2.heap.size rfl (.tmp 32) (.tmp 37) 29 36 (.agg #[.bool false, .slice none 0 0, .slice none 0 0, .int .i64 0, .int .i64 0]) 72 rfl Try.underlying29 infoItem5 rfl (by decide) (by omega) _ ((L.take k).filter Pl.goodT) x [.bool x.1, .slice A1 x.2.1.length c1, .slice A2 x.2.2.1.length c2, .int .i64 x.2.2.2.1, .int .i64 x.2.2.2.2] (fun j => W2.heap.size ≤ j) (fun j => W2.heap.size ≤ j ∧ j < w3.heap.size) rfl rfl ?aP ?aQ ?aF ?aO ?aB ?aS ?aL ?_; (case aP => exact item_FK (Kd.V_below HV1.out HB.out) (Kd.V_below HV2.out HB.out)); (case aQ => exact fun j hj => ⟨hj.1, fun he => by have := HW.out j he.symm; omega⟩); (case aF => exact fun j hj => by omega); (case aO => exact HO.out); (case aB => exact HB.out.mono h23); (case aS => omega); (case aL => omega); intro v9 w9 ho9 hb9 hg9 hat9; obtain ⟨A9, c9, hv9⟩ := Kd.N_slice ho9; rw [List.length_append, List.length_singleton] at hv9; subst hv9)
            go_ret
            have hrest : Pl.items b c = (L.take k).filter Pl.goodT ++ [x] := by
              rw [HIT.out, HSK.out]
              unfold Pl.cutBad
              simp only [Bool.false_eq_true, if_false]
              have hall := HS.out HSK.out
              rw [Pl.filter_all hall]
              have hLs : L = L.take k ++ x :: L.drop (k + 1) := Pl.cutD HX.out
              rw [hLs, List.take_left' (by simp; omega), Pl.firstBad_app hall]
              simp [Pl.firstBad, HGD.out]
            rw [hrest]
            exact ⟨_, rfl, Own.lower ho9 hw2, hbw3.out.trans ((HB.out.grown hg9 hszr (fun j he => HW.out j he)).mono hwb)⟩
          · rw [hsk] at zs
            have HSK := Lib.hid hsk
            clear hsk
            go_wp2_with fail
            go_roundw
            case rel => exact ⟨k + 1, by go_num, ⟨by omega⟩, ⟨by rw [htk.out, List.filter_append]; simpa [HGD.out] using HO.out⟩, ⟨fun h => by cases h⟩, ⟨HB.out⟩, ⟨HW.out⟩⟩
            case measure => simp [intOf]; omega
        · have hz : (x.2.2.2.1 != 0) = false := by
            unfold Pl.goodT at hgd
            simpa using hgd
          have HGD := Lib.hid hgd
          clear hgd
          go_wp2_with ((with_reducible refine gate_builtin (b := .append) (xs := #[.tmp 32, .tmp 37]) rfl ?_); at_builtin; refine Kd.N_append kItem (w0 := w3) W2.heap.size rfl (.tmp 32) (.tmp 37) 29 36 (.agg #[.bool false, .slice none 0 0, .slice none 0 0, .int .i64 0, .int .i64 0]) 72 rfl Try.underlying29 infoItem5 rfl (by decide) (by omega) _ ((L.take k).filter Pl.goodT) x [.bool x.1, .slice A1 x.2.1.length c1, .slice A2 x.2.2.1.length c2, .int .i64 x.2.2.2.1, .int .i64 x.2.2.2.2] (fun j => W2.heap.size ≤ j) (fun j => W2.heap.size ≤ j ∧ j < w3.heap.size) rfl rfl ?aP ?aQ ?aF ?aO ?aB ?aS ?aL ?_; (case aP => exact item_FK (Kd.V_below HV1.out HB.out) (Kd.V_below HV2.out HB.out)); (case aQ => exact fun j hj => ⟨hj.1, fun he => by have := HW.out j he.symm; omega⟩); (case aF => exact fun j hj => by omega); (case aO => exact HO.out); (case aB => exact HB.out.mono h23); (case aS => omega); (case aL => omega); intro v9 w9 ho9 hb9 hg9 hat9; obtain ⟨A9, c9, hv9⟩ := Kd.N_slice ho9; rw [List.length_append, List.length_singleton] at hv9; subst hv9)
          go_roundw
          case rel => exact ⟨k + 1, by go_num, ⟨by omega⟩, ⟨by rw [htk.out, List.filter_append]; simpa [HGD.out] using ho9⟩, ⟨fun h y hy => by
            rw [htk.out] at hy
            rcases List.mem_append.1 hy with h' | h'
            · exact HS.out h y h'
            · rw [List.mem_singleton.1 h']; exact HGD.out⟩, ⟨HB.out.grown hg9 hszr (fun j he => HW.out j he)⟩, ⟨fun j hj => by
            rcases hat9 with h | ⟨b9, h, hb⟩
            · exact HW.out j (h ▸ hj)
            · rw [h] at hj
              cases hj
              omega⟩⟩
          case measure => simp [intOf]; omega
      · obtain rfl : k = L.length := by have := hk.out; omega
        have hd : decide ((L.length : Int) < (L.length : Int)) = false := by simp
        go_wp2_with fail
        go_ret
        refine ⟨_, rfl, ?_, hbw3.out.trans (HB.out.mono hwb)⟩
        have hi : Pl.items b c = (L.take L.length).filter Pl.goodT := by
          rw [HIT.out, List.take_length]
          unfold Pl.cutBad
          cases hsk : c.skip with
          | true => rfl
          | false =>
            have hall := HS.out hsk
            rw [List.take_length] at hall
            rw [Pl.filter_all hall]
            have := Pl.firstBad_app hall []
            rw [List.append_nil] at this
            simp only [Bool.false_eq_true, if_false]
            rw [this]
            simp [Pl.firstBad]
        rw [hi]
        exact Own.lower HO.out hw2

namespace Pl
theorem items_end (b : List UInt8) (c : Cfg) (hr : right c = true) : (items b c = [] ∧ fails b c = (0, 0)) ∨ ∃ p z, items b c = p ++ [z] ∧ ((goodT z = false ∧ fails b c = (z.2.2.2.2, z.2.2.2.1)) ∨ (goodT z = true ∧ fails b c = (0, 0))) := by
  have hi : items b c = cutBad c.skip (rawItems b c) := by unfold items; rw [if_pos hr]
  have hall : (∀ x ∈ items b c, goodT x = true) → fails b c = (0, 0) := fun h => by
    unfold fails
    rw [if_pos hr, show (items b c).find? (fun x => !goodT x) = none by
      rw [List.find?_eq_none]
      intro x hx
      simp [h x hx]]
  have hgood : (∀ x ∈ items b c, goodT x = true) → (items b c = [] ∧ fails b c = (0, 0)) ∨ ∃ p z, items b c = p ++ [z] ∧ ((goodT z = false ∧ fails b c = (z.2.2.2.2, z.2.2.2.1)) ∨ (goodT z = true ∧ fails b c = (0, 0))) := fun h => by
    rcases List.eq_nil_or_concat (items b c) with h0 | ⟨p, z, h0⟩
    · exact .inl ⟨h0, hall h⟩
    · rw [List.concat_eq_append] at h0
      exact .inr ⟨p, z, h0, .inr ⟨h z (by rw [h0]; simp), hall h⟩⟩
  cases hs : c.skip with
  | true =>
    refine hgood fun x hx => ?_
    rw [hi, hs] at hx
    exact (List.mem_filter.1 hx).2
  | false =>
    have hi2 : items b c = firstBad (rawItems b c) := by rw [hi, hs]; rfl
    rcases firstBad_split (rawItems b c) with ⟨h1, h2⟩ | ⟨p, z, r, h1, h2, h3, h4⟩
    · exact hgood fun x hx => by rw [hi2, h1] at hx; exact h2 x hx
    · refine .inr ⟨p, z, by rw [hi2, h4], .inl ⟨h3, ?_⟩⟩
      unfold fails
      rw [if_pos hr, hi2, h4, List.find?_append, show p.find? (fun x => !goodT x) = none by
        rw [List.find?_eq_none]
        intro x hx
        simp [h2 x hx]]
      simp [h3]
end Pl

set_option maxRecDepth 100000 in
set_option maxHeartbeats 2000000 in
theorem rfails11_of (HRAW : RRaw) (v : Value) (b : List UInt8) (c : Pl.Cfg) (w : World) (hv : Rd kb w v b) (hl : b.length ≤ 1000) :
    Calls Try.prog 24 #[v, cfgV c] w fun e w' => e = .returned (.tuple #[.int .i64 (Pl.fails b c).1, .int .i64 (Pl.fails b c).2]) ∧ Below w.heap.size w w' := by
  have HR := Lib.hid hv
  obtain ⟨A0, c0, rfl, hc0, _⟩ := hv
  go_enter Try.func24, Try.ntmps24
  go_wp2_with fail
  refine calls_at fun W1 hW1 => ?_
  have hb1 : Below w.heap.size w W1 := by rw [← hW1]; exact below_alloc (Below.refl _ _) _
  have K1 : Blk W1 w.heap.size (cfgC c) 40 := by rw [← hW1]; exact Blk.new _ _ _
  clear hW1
  refine (rright11_any c W1).mono ?_
  rintro e W2 ⟨rfl, hb2⟩
  have K2 := K1.belowW hb2
  have hbw2 := bthen hb1 hb2
  clear hb1 hb2 K1
  rcases hr : Pl.right c with _ | _
  · have HI := Lib.hid (Pl.fails_wrong b c hr).1
    have HB := Lib.hid hbw2
    clear hr
    go_wp2_with fail
    go_ret2
    rw [HI.out]
    exact ⟨rfl, HB.out⟩
  · have HE := Lib.hid (Pl.items_end b c hr)
    clear hr
    obtain ⟨q0, q1, q2, q3, q4, q5, q6, q7, q8⟩ := cfgAt_of K2
    go_wp2_with fail
    refine (rlist11_of HRAW _ b c W2 (Rd.below HR.out hbw2) hl).mono ?_
    rintro e w3 ⟨v3, rfl, ho3, hb3⟩
    obtain ⟨A3, c3, hv3⟩ := Kd.N_slice ho3
    subst hv3
    have HB := Lib.hid (bthen hbw2 hb3)
    have HV3 := Lib.hid (Own.rd ho3)
    have hlen := Pl.items_len b c
    have mixed : Try.prog.follows .mixedOrders = true := by kernel_rfl
    clear q0 q1 q2 q3 q4 q5 q6 q7 q8 K2 hb3 hbw2 ho3
    rcases HE.out with ⟨h1, h2⟩ | ⟨p, z, h1, h2⟩
    · have HF := Lib.hid h2
      rw [h1]
      clear h1 h2 HV3
      simp only [List.length_nil]
      go_wp2_with fail
      go_ret2
      rw [HF.out]
      exact ⟨rfl, HB.out⟩
    · rw [h1] at hlen HV3 ⊢
      obtain ⟨n, hpn⟩ : ∃ n, p.length = n := ⟨_, rfl⟩
      have hn : (p ++ [z]).length = n + 1 := by simp [hpn]
      have hz : (p ++ [z])[n]? = some z := by simp [← hpn]
      obtain ⟨_, _, hFx⟩ := Kd.V_at HV3.out
      obtain ⟨ad, A1, c1, A2, c2, hAb, hV1, hV2, y0, y1, y2, y3, y4⟩ := item_get hFx n z hz
      subst hAb
      rw [hn] at hlen ⊢
      have hw1 : IntKind.i64.wrap ((n : Int) + 1 - 1) = (n : Int) := (IntWalk.i64_in _ (by omega)).trans (by omega)
      have hw2 : IntKind.i64.wrap (n : Int) = (n : Int) := IntWalk.i64_in _ (by omega)
      have hgt : decide ((0 : Int) < (n : Int) + 1) = true := decide_eq_true (by omega)
      have hq1 : (0 : Int) ≤ (n : Int) := by omega
      have hq2 : (n : Int) < (n : Int) + 1 := by omega
      clear hFx hV1 hV2 hz hn hpn h1
      rcases h2 with ⟨h2, h3⟩ | ⟨h2, h3⟩
      · have hzc : (z.2.2.2.1 != 0) = true := by
          unfold Pl.goodT at h2
          simpa using h2
        have HF := Lib.hid h3
        clear h2 h3
        have y3d := y3
        have y4d := y4
        go_wp2_with fail
        go_region_held3 (fun W => W.cell? ⟨(ad.add (n * 5)).block, (ad.add (n * 5)).off + 3, none⟩ = some (.int .i64 z.2.2.2.1) ∧ W.cell? ⟨(ad.add (n * 5)).block, (ad.add (n * 5)).off + 4, none⟩ = some (.int .i64 z.2.2.2.2)) (first | exact ⟨y3d, y4d⟩) (first | fail)
        all_goals
          go_wp2
          go_ret2
          rw [HF.out]
          exact ⟨rfl, HB.out.drew⟩
      · have hzc : (z.2.2.2.1 != 0) = false := by
          unfold Pl.goodT at h2
          simpa using h2
        have HF := Lib.hid h3
        clear h2 h3
        go_wp2_with fail
        go_ret2
        rw [HF.out]
        exact ⟨rfl, HB.out⟩
end Go.Proofs.Ytchbfeejpdfmhaa
/-! creelref11.raw, given creelref10.List. -/
set_option linter.unusedSimpArgs false
set_option linter.unusedVariables false
namespace Go.Proofs.Ytchbfeejpdfmhaa
open Go.RowKit Go.Shelf Go.Proofs.YtchbfeejpdfmhaaW.PrintWords Go.Proofs.YtchbfeejpdfmhaaW.PrintLast Go.Proofs.YtchbfeejpdfmhaaW.PrintMore
attribute [local go_sem] max2_int min2_int max_two min_two

/-- What creelref10.List answers. -/
def RList10 : Prop := ∀ (v : Value) (b : List UInt8) (w : World), Rd kb w v b → b.length ≤ 1000 → Calls Try.prog 45 #[v] w fun e w' => ∃ v', e = .returned v' ∧ Own kItem 36 w' w.heap.size v' (Pl.dump b) ∧ Below w.heap.size w w'

set_option maxRecDepth 100000 in
set_option maxHeartbeats 2000000 in
theorem rraw11_of (H10 : RList10) : RRaw := by
  intro v b c w hv hl
  have HR := Lib.hid hv
  obtain ⟨A0, c0, rfl, hc0, _⟩ := hv
  have f3 := u8_is c.fmt 3 3 rfl
  go_enter Try.func38, Try.ntmps38
  rcases h3 : (c.fmt == 3) with _ | _
  · rw [h3] at f3
    have HRAW := Lib.hid (show Pl.rawItems b c = (Pl.lines b).flatMap (Pl.rawOf c) by unfold Pl.rawItems; rw [if_neg (by simpa using h3)]; rfl)
    clear h3
    go_wp2_with fail
    refine calls_at fun W1 hW1 => ?_
    have hb1 : Below w.heap.size w W1 := by rw [← hW1]; exact below_alloc (Below.refl _ _) _
    have K1 : Blk W1 w.heap.size (cfgC c) 40 := by rw [← hW1]; exact Blk.new _ _ _
    clear hW1
    refine (rlist_any _ b W1 (Rd.below HR.out hb1) (by omega)).mono ?_
    rintro e w2 ⟨v2, rfl, ho2, hb2⟩
    obtain ⟨A2, c2, hv2⟩ := Kd.N_slice ho2
    subst hv2
    have K2 := K1.belowW hb2
    have hbw2 := Lib.hid (bthen hb1 hb2)
    have hln := Pl.lines_len b
    obtain ⟨ls, hls⟩ : ∃ ls, Pl.lines b = ls := ⟨_, rfl⟩
    have HIN := Lib.hid (Pl.lineIn b)
    have HSUM := Lib.hid (show ((Pl.lines b).map (fun x => x.2.length + 1)).sum ≤ b.length + 1 from Pl.lines_sum _ 0 b (Nat.le_refl _))
    rw [hls] at ho2 hln HIN HRAW HSUM ⊢
    have HLS := Lib.hid (Own.rd ho2)
    clear hb1 hb2 K1 ho2 hls
    have hsz := K2.lt
    have hq0 : w2.cell? ⟨w.heap.size, 0, none⟩ = some (.int .u8 (c.fmt.toNat : Int)) := K2.cell.1 0
    have hq1 : w2.cell? ⟨w.heap.size, 1, none⟩ = some (.bool c.num) := K2.cell.1 1
    have f1 := u8_is c.fmt 1 1 rfl
    have hww : w.heap.size ≤ w2.heap.size := hbw2.out.size
    go_wp2_with fail
    go_loopw [5, 7] (fun o i wr => ∃ k : Nat, i = .int .i64 (k : Int) ∧ Aside0 (k ≤ ls.length) ∧ Aside0 (Own kItem 36 wr w2.heap.size o ((ls.take k).flatMap (Pl.rawOf c))) ∧ Aside0 (Below w2.heap.size w2 wr)) (fun _ i _ => ls.length - (intOf i).toNat)
    case atStart => exact ⟨0, rfl, ⟨by omega⟩, ⟨by simpa using Own.nil kItem 36 w2 w2.heap.size⟩, ⟨Below.refl _ _⟩⟩
    case round =>
      obtain ⟨k, rfl, hk, HO, HB⟩ := hrel
      have hszr := HB.out.size
      obtain ⟨M, hM⟩ : ∃ M, (ls.take k).flatMap (Pl.rawOf c) = M := ⟨_, rfl⟩
      have hsum : ((ls.take k).map (fun x => x.2.length + 1)).sum ≤ b.length + 1 := by
        have h1 := HSUM.out
        rw [← List.take_append_drop k ls, List.map_append, List.sum_append] at h1
        omega
      have hfl := Nat.le_trans (Pl.flat_le c (ls.take k)) hsum
      clear hsum
      have HMM := Lib.hid hM
      rw [hM] at HO hfl
      clear hM
      obtain ⟨Ao, co, hvo⟩ := Kd.N_slice HO.out
      subst hvo
      by_cases hlt : k < ls.length
      · obtain ⟨⟨at_, bs⟩, hx⟩ : ∃ x, ls[k]? = some x := ⟨_, List.getElem?_eq_getElem hlt⟩
        obtain ⟨_, _, hFm⟩ := Kd.V_at HLS.out
        obtain ⟨ad, A5, c5, hAa, hV5, y0, y1⟩ := line_get hFm k _ hx
        subst hAa
        have hlB : (ad.add (k * 2)).block < w2.heap.size := World.block_lt_of_cell? _ _ y0
        have z0 := (HB.out.cell (p := ad.add (k * 2)) hlB).trans y0
        have z1 := (HB.out.cell (p := ⟨(ad.add (k * 2)).block, (ad.add (k * 2)).off + 1, none⟩) hlB).trans y1
        have HV5 := Lib.hid hV5
        have q1 : (0 : Int) ≤ (k : Int) := by omega
        have q2 : (k : Int) < (ls.length : Int) := by omega
        obtain ⟨ha0, ha1⟩ := HIN.out _ (List.mem_of_getElem? hx)
        simp only at ha0 ha1
        have htk := Lib.hid (show (ls.take (k + 1)).flatMap (Pl.rawOf c) = M ++ Pl.rawOf c (at_, bs) by rw [Pl.takeD hx, List.flatMap_append, HMM.out]; simp)
        clear hFm hV5 hx
        go_wp2_with fail
        refine (rbare_any _ at_ bs wr (Rd.below HV5.out HB.out) ha0 (by omega) (by omega)).mono ?_
        rintro e wb ⟨rfl, hbb⟩
        have HB2 := Lib.hid (bthen HB.out hbb)
        have HO2 := Lib.hid (HO.out.below hbb)
        have hbb2 := hbb.size
        have u0 := (HB2.out.cell (p := ad.add (k * 2)) hlB).trans y0
        have u1 := (HB2.out.cell (p := ⟨(ad.add (k * 2)).block, (ad.add (k * 2)).off + 1, none⟩) hlB).trans y1
        have u2 := (HB2.out.cell (p := ⟨w.heap.size, 0, none⟩) hsz).trans hq0
        clear z0 z1 hbb
        rcases hbar : Pl.bare bs with _ | _
        · have HBAR := Lib.hid hbar
          clear hbar
          rcases hf1 : (c.fmt == 1) with _ | _
          · rw [hf1] at f1
            have HRO := Lib.hid (show Pl.rawOf c (at_, bs) = Pl.adj at_ bs c.num by unfold Pl.rawOf; rw [if_neg (by rw [show (at_, bs).2 = bs from rfl, HBAR.out]; simp), if_neg (by simpa using hf1)])
            clear hf1
            have u3 := (HB2.out.cell (p := ⟨w.heap.size, 1, none⟩) hsz).trans hq1
            have hU := Lib.hid (⟨u0, u1, u3⟩ : wb.cell? (ad.add (k * 2)) = some (.int .i64 at_) ∧ wb.cell? ⟨(ad.add (k * 2)).block, (ad.add (k * 2)).off + 1, none⟩ = some (.slice A5 bs.length c5) ∧ wb.cell? ⟨w.heap.size, 1, none⟩ = some (.bool c.num))
            have HBD : Below w2.heap.size w2 wb.drew := HB2.out.drew
            go_wp2_with fail
            obtain ⟨its, hits⟩ : ∃ its, Pl.adj at_ bs c.num = its := ⟨_, rfl⟩
            have hil := adj_le at_ bs c.num
            rw [hits] at HRO hil
            have HITS := Lib.hid hits
            clear hits
            have hlD : (ad.add (k * 2)).block < wb.drew.heap.size := Nat.lt_of_lt_of_le hlB HB2.out.size
            have hsD : w.heap.size < wb.drew.heap.size := Nat.lt_of_lt_of_le hsz HB2.out.size
            go_region_held3 (fun W => W.cell? (ad.add (k * 2)) = some (.int .i64 at_) ∧ W.cell? ⟨(ad.add (k * 2)).block, (ad.add (k * 2)).off + 1, none⟩ = some (.slice A5 bs.length c5) ∧ W.cell? ⟨w.heap.size, 1, none⟩ = some (.bool c.num)) (first | exact hU.out | exact ⟨(hbp.cell (p := ad.add (k * 2)) hlD).trans hU.out.1, (hbp.cell (p := ⟨(ad.add (k * 2)).block, (ad.add (k * 2)).off + 1, none⟩) hlD).trans hU.out.2.1, (hbp.cell (p := ⟨w.heap.size, 1, none⟩) hsD).trans hU.out.2.2⟩ | exact ⟨(hb9.cell (p := ad.add (k * 2)) hlB).trans y0, (hb9.cell (p := ⟨(ad.add (k * 2)).block, (ad.add (k * 2)).off + 1, none⟩) hlB).trans y1, (hb9.cell (p := ⟨w.heap.size, 1, none⟩) hsz).trans hq1⟩ | go_keep)
              (first | (go_at_call 15; refine (raparse_own _ at_ bs c.num _ (Rd.below HV5.out HBD) ha0 (by omega) (by omega)).mono ?_; rw [HITS.out]; rintro e wp ⟨va, rfl, hva, hbp⟩; obtain ⟨A6, c6, rfl, hc6, hF6⟩ := hva) | (refine Kd.N_append_rows_step kItem (w0 := w2) (W := wp) w2.heap.size rfl (.tmp 39) (.tmp 46) 29 36 (.agg #[.bool false, .slice none 0 0, .slice none 0 0, .int .i64 0, .int .i64 0]) 72 rfl Try.underlying29 infoItem5 rfl (by decide) (by omega) _ M its A6 its.length c6 (fun j => w2.heap.size ≤ j) (fun j => wb.drew.heap.size ≤ j) rfl rfl ?aO hF6 ?aQ ?aF ?aB ?aS ?aL ?_; (case aQ => exact fun j hj => ⟨Nat.le_trans HB2.out.size hj, fun he => by have := HO2.out.lt j he.symm; have h' : wb.heap.size ≤ j := hj; omega⟩); (case aF => exact fun j hj => Nat.le_trans (Nat.le_trans HB2.out.size hbp.size) hj); (case aO => exact Kd.N_below (Kd.N_drew HO2.out) hbp); (case aB => exact bthen HBD hbp); (case aS => exact Nat.le_trans HB2.out.size hbp.size); (case aL => omega); intro v9 w9 ho9 hb9 hg9 hat9))
            go_wp2
            go_roundw
            case rel => exact ⟨k + 1, by go_num, ⟨by omega⟩, ⟨by rw [htk.out, HRO.out]; exact ho9⟩, ⟨hb9⟩⟩
            case measure => simp [intOf]; omega
          · rw [hf1] at f1
            have HRO := Lib.hid (show Pl.rawOf c (at_, bs) = [Pl.It.t (Pl.edge at_ bs c.num)] by unfold Pl.rawOf; rw [if_neg (by rw [show (at_, bs).2 = bs from rfl, HBAR.out]; simp), if_pos (by simpa using hf1)])
            clear hf1
            have u3 := (HB2.out.cell (p := ⟨w.heap.size, 1, none⟩) hsz).trans hq1
            have hU := Lib.hid (⟨u0, u1, u3⟩ : wb.cell? (ad.add (k * 2)) = some (.int .i64 at_) ∧ wb.cell? ⟨(ad.add (k * 2)).block, (ad.add (k * 2)).off + 1, none⟩ = some (.slice A5 bs.length c5) ∧ wb.cell? ⟨w.heap.size, 1, none⟩ = some (.bool c.num))
            have HBD : Below w2.heap.size w2 wb.drew := HB2.out.drew
            go_wp2_with fail
            obtain ⟨ed, hed⟩ : ∃ ed, Pl.edge at_ bs c.num = ed := ⟨_, rfl⟩
            rw [hed] at HRO
            have HED := Lib.hid hed
            clear hed
            have hlD : (ad.add (k * 2)).block < wb.drew.heap.size := Nat.lt_of_lt_of_le hlB HB2.out.size
            have hsD : w.heap.size < wb.drew.heap.size := Nat.lt_of_lt_of_le hsz HB2.out.size
            go_region_held3 (fun W => W.cell? (ad.add (k * 2)) = some (.int .i64 at_) ∧ W.cell? ⟨(ad.add (k * 2)).block, (ad.add (k * 2)).off + 1, none⟩ = some (.slice A5 bs.length c5) ∧ W.cell? ⟨w.heap.size, 1, none⟩ = some (.bool c.num)) (first | exact hU.out | exact ⟨(hbp.cell (p := ad.add (k * 2)) hlD).trans hU.out.1, (hbp.cell (p := ⟨(ad.add (k * 2)).block, (ad.add (k * 2)).off + 1, none⟩) hlD).trans hU.out.2.1, (hbp.cell (p := ⟨w.heap.size, 1, none⟩) hsD).trans hU.out.2.2⟩ | exact ⟨(hb9.cell (p := ad.add (k * 2)) hlB).trans y0, (hb9.cell (p := ⟨(ad.add (k * 2)).block, (ad.add (k * 2)).off + 1, none⟩) hlB).trans y1, (hb9.cell (p := ⟨w.heap.size, 1, none⟩) hsz).trans hq1⟩ | go_keep)
              (first | (go_at_call 17; refine (rparse_any _ at_ bs c.num _ (Rd.below HV5.out HBD) ha0 (by omega) (by omega)).mono ?_; rw [HED.out]; rintro e wp ⟨va, vb, rfl, hoa, hob, hbp⟩; obtain ⟨A6, c6, hva⟩ := Kd.N_slice hoa; obtain ⟨A7, c7, hvb⟩ := Kd.N_slice hob; subst hva hvb) | (refine Kd.N_append_step kItem (w0 := w2) (W := wp) w2.heap.size rfl (.tmp 29) (.tmp 37) 29 36 (.agg #[.bool false, .slice none 0 0, .slice none 0 0, .int .i64 0, .int .i64 0]) 72 rfl Try.underlying29 infoItem5 rfl (by decide) (by omega) _ M (ed.two, ed.a, ed.b, ed.code, ed.at_) [.bool ed.two, .slice A6 ed.a.length c6, .slice A7 ed.b.length c7, .int .i64 ed.code, .int .i64 ed.at_] (fun j => w2.heap.size ≤ j) (fun j => wb.drew.heap.size ≤ j) rfl rfl ?aP ?aQ ?aF ?aO ?aB ?aS ?aL ?_; (case aP => exact item_FK hoa.v hob.v); (case aQ => exact fun j hj => ⟨Nat.le_trans HB2.out.size hj, fun he => by have := HO2.out.lt j he.symm; have h' : wb.heap.size ≤ j := hj; omega⟩); (case aF => exact fun j hj => Nat.le_trans (Nat.le_trans HB2.out.size hbp.size) hj); (case aO => exact Kd.N_below (Kd.N_drew HO2.out) hbp); (case aB => exact bthen HBD hbp); (case aS => exact Nat.le_trans HB2.out.size hbp.size); (case aL => omega); intro v9 w9 ho9 hb9 hg9 hat9))
            go_wp2
            go_roundw
            case rel => exact ⟨k + 1, by go_num, ⟨by omega⟩, ⟨by rw [htk.out, HRO.out]; exact ho9⟩, ⟨hb9⟩⟩
            case measure => simp [intOf]; omega
        · have HRO := Lib.hid (show Pl.rawOf c (at_, bs) = [] by unfold Pl.rawOf; rw [if_pos (show Pl.bare (at_, bs).2 = true from hbar)])
          clear hbar
          go_wp2_with fail
          go_roundw
          case rel => exact ⟨k + 1, by go_num, ⟨by omega⟩, ⟨by rw [htk.out, HRO.out, List.append_nil]; exact HO2.out⟩, ⟨HB2.out⟩⟩
          case measure => simp [intOf]; omega
      · obtain rfl : k = ls.length := by have := hk.out; omega
        have hd : decide ((ls.length : Int) < (ls.length : Int)) = false := by simp
        go_wp2_with fail
        go_ret
        rw [HRAW.out]
        refine ⟨_, rfl, ?_, hbw2.out.trans (HB.out.mono hww)⟩
        have hM2 := HMM.out
        rw [List.take_of_length_le (Nat.le_refl _)] at hM2
        rw [hM2]
        exact Own.lower HO.out hww
  · rw [h3] at f3
    have HRAW := Lib.hid (show Pl.rawItems b c = Pl.dump b by unfold Pl.rawItems; rw [if_pos (by simpa using h3)])
    clear h3
    go_wp2_with fail
    refine calls_at fun W1 hW1 => ?_
    have hb1 : Below w.heap.size w W1 := by rw [← hW1]; exact below_alloc (Below.refl _ _) _
    clear hW1
    refine (H10 _ b W1 (Rd.below HR.out hb1) hl).mono ?_
    rintro e w2 ⟨v2, rfl, ho2, hb2⟩
    obtain ⟨A2, c2, hv2⟩ := Kd.N_slice ho2
    subst hv2
    have HB := Lib.hid (bthen hb1 hb2)
    have HO := Lib.hid (Own.lower ho2 hb1.size)
    clear ho2 hb2
    go_wp2_with fail
    go_ret
    rw [HRAW.out]
    exact ⟨_, rfl, HO.out, HB.out⟩
end Go.Proofs.Ytchbfeejpdfmhaa
/-! creelref10.List. -/
set_option linter.unusedSimpArgs false
set_option linter.unusedVariables false
namespace Go.Proofs.Ytchbfeejpdfmhaa
open Go.RowKit Go.Shelf Go.Proofs.YtchbfeejpdfmhaaW.PrintWords Go.Proofs.YtchbfeejpdfmhaaW.PrintLast Go.Proofs.YtchbfeejpdfmhaaW.PrintMore
attribute [local go_sem] max2_int min2_int max_two min_two

namespace Pl
/-- what the first k eights tell -/
def eights (b : List UInt8) (k : Nat) : List ItT := (List.range k).map fun i => (true, (b.drop (8 + 8 * i)).take 4, (b.drop (12 + 8 * i)).take 4, 0, 0)
theorem eights_succ (b : List UInt8) (k : Nat) : eights b (k + 1) = eights b k ++ [(true, (b.drop (8 + 8 * k)).take 4, (b.drop (12 + 8 * k)).take 4, 0, 0)] := by
  simp [eights, List.range_succ]
theorem dumpOf_eights (n : Nat) : ∀ (b d : List UInt8) (k : Nat), b.length ≤ n → d.drop (8 + 8 * k) = b → dumpOf (8 + 8 * (k : Int)) (chunks b) = (List.range (b.length / 8)).map (fun i => (true, (d.drop (8 + 8 * (k + i))).take 4, (d.drop (12 + 8 * (k + i))).take 4, 0, 0)) ++ (if b.length % 8 = 0 then [] else [(false, [], [], 5, 8 + 8 * ((k + b.length / 8 : Nat) : Int))]) := by
  induction n with
  | zero =>
    intro b d k h hd
    have : b = [] := List.eq_nil_of_length_eq_zero (by omega)
    subst this
    rw [chunks_nil]
    simp [dumpOf]
  | succ n ih =>
    intro b d k h hd
    by_cases hb : b = []
    · subst hb; rw [chunks_nil]; simp [dumpOf]
    · have hp := List.length_pos_iff.2 hb
      rw [chunks_cons hb]
      simp only [dumpOf]
      by_cases h8 : 8 ≤ b.length
      · have hl8 : (b.take 8).length = 8 := by simp; omega
        rw [show (8 : Int) + 8 * (k : Int) + ((b.take 8).length : Int) = 8 + 8 * ((k + 1 : Nat) : Int) by rw [hl8]; omega]
        rw [ih (b.drop 8) d (k + 1) (by simp; omega) (by rw [← hd, List.drop_drop]; congr 1)]
        have hq : (b.drop 8).length / 8 + 1 = b.length / 8 := by simp; omega
        have hr : (b.drop 8).length % 8 = b.length % 8 := by simp; omega
        have e0 : dumpOne (8 + 8 * (k : Int)) (b.take 8) = (true, (d.drop (8 + 8 * (k + 0))).take 4, (d.drop (12 + 8 * (k + 0))).take 4, 0, 0) := by
          unfold dumpOne
          rw [if_pos hl8, Nat.add_zero, hd, show d.drop (12 + 8 * k) = b.drop 4 by rw [← hd, List.drop_drop]; congr 1; omega]
          simp [List.take_take, List.drop_take]
        rw [← hq, List.range_succ_eq_map, List.map_cons, List.map_map, hr, e0, List.cons_append]
        congr 1
        congr 1
        · refine List.map_congr_left fun i _ => ?_
          simp only [Function.comp]
          rw [show k + 1 + i = k + (i + 1) by omega]
        · rw [show k + 1 + (b.drop 8).length / 8 = k + ((b.drop 8).length / 8 + 1) by omega]
      · have e0 : dumpOne (8 + 8 * (k : Int)) (b.take 8) = (false, [], [], 5, 8 + 8 * (k : Int)) := by
          unfold dumpOne
          rw [if_neg (by simp; omega)]
        have e1 : b.length / 8 = 0 := by omega
        have e2 : b.drop 8 = [] := List.drop_of_length_le (by omega)
        rw [e0, e1, e2, chunks_nil, if_neg (by omega)]
        simp [dumpOf]
theorem eights_len (b : List UInt8) (k : Nat) : (eights b k).length = k := by simp [eights]
end Pl

/-- two rows of bytes in the making, each in a block of its own -/
structure Two (w0 W : World) (u v : Value) (xs ys : List UInt8) : Prop where
  bl : Below w0.heap.size w0 W
  a : Own kb 5 W w0.heap.size u xs
  b : Own kb 5 W w0.heap.size v ys
  ne : ∀ k, u.ownBlock = some k → v.ownBlock = some k → False
theorem Two.start (w0 : World) : Two w0 w0 (.slice none 0 0) (.slice none 0 0) [] [] := ⟨Below.refl _ _, Own.nil _ _ _ _, Own.nil _ _ _ _, fun k hk => by simp [Value.ownBlock] at hk⟩
theorem Two.drew {w0 W : World} {u v : Value} {xs ys : List UInt8} (h : Two w0 W u v xs ys) : Two w0 W.drew u v xs ys := ⟨h.bl.drew, h.a.drew, h.b.drew, h.ne⟩
theorem Two.turn {w0 W : World} {u v : Value} {xs ys : List UInt8} (h : Two w0 W u v xs ys) : Two w0 W v u ys xs := ⟨h.bl, h.b, h.a, fun k h1 h2 => h.ne k h2 h1⟩
theorem Two.litA {w0 W : World} {u v : Value} {ys : List UInt8} (h : Two w0 W u v [] ys) (g : Nat) (hg : g = W.heap.size) : Two w0 (W.alloc (.cells #[] 5)) (.slice (some ⟨g, 0, none⟩) 0 0) v [] ys := by
  subst hg
  refine ⟨h.bl.alloc h.bl.size _, lit_own W w0.heap.size [] [] rfl h.bl.size (by simp), h.b.alloc _, fun k hk hv => ?_⟩
  have h1 := h.b.lt k hv
  have h2 : W.heap.size = k := by simpa [Value.ownBlock] using hk
  omega
theorem Two.litB {w0 W : World} {u v : Value} {xs : List UInt8} (h : Two w0 W u v xs []) (g : Nat) (hg : g = W.heap.size) : Two w0 (W.alloc (.cells #[] 5)) u (.slice (some ⟨g, 0, none⟩) 0 0) xs [] := (h.turn.litA g hg).turn
theorem own_tightN {W : World} {base : Nat} {v : Value} {xs : List UInt8} (h : Own kb 5 W base v xs) : Kd.N kb 5 W base (fun k => some k = v.ownBlock ∧ base ≤ k) v xs := Kd.R_N (Kd.R_tight2 rfl (own_R h))
theorem Two.appA {w0 W w1 : World} {u v u1 : Value} {xs ys zs : List UInt8} (h : Two w0 W u v xs ys) (hb : Below w0.heap.size w0 w1) (ho : Own kb 5 w1 w0.heap.size u1 zs) (hg : W.grownBy w1 u.ownBlock) (hat : u1.ownBlock = u.ownBlock ∨ ∃ b, u1.ownBlock = some b ∧ W.heap.size ≤ b) : Two w0 w1 u1 v zs ys := by
  refine ⟨hb, ho, Kd.N_mono (Kd.N_grown (own_tightN h.b) hg fun k hk he => h.ne k he.symm hk.1.symm) (fun k hk => hk.2), fun k hk hv => ?_⟩
  rcases hat with hat | ⟨b, hb1, hb2⟩
  · exact h.ne k (hat ▸ hk) hv
  · have h1 := h.b.lt k hv
    rw [hb1] at hk
    injection hk with hk
    omega
section
variable {ops : Array Oper} {o : Oper} {a : Act} {Q : Exit → Act → World → Prop} {Kc : Act → World → Prop} {w0 W : World}
theorem appA_step (hgd : Region.wanted o (yielded ops a.tmps) = true) (s x : Operand) (ho : o.op = .call { callee := .builtin .append, args := #[s, x], argTypes := #[22, 22] })
    (u v r : Value) (ys P : List UInt8) (hs : a.eval s = u) (hx : a.eval x = r) (T : Two w0 W u v [] ys) (HR : Rd kb w0 r P) (hl : P.length ≤ 8)
    (h : ∀ v1 w1, Two w0 w1 v1 v P ys → Kc (a.put o.dst v1) w1) :
    if Region.wanted o (yielded ops a.tmps) = true then Oper.wp Try.prog o a W Kc Q else Kc (a.put o.dst undef) W := by
  refine appN_step (w0 := w0) w0.heap.size hgd s x ho u r [] P hs hx T.a (Rd.below HR T.bl) T.bl T.bl.size (by simp; omega) ?_
  intro v1 w1 ho1 hb1 hg1 hat1
  exact h v1 w1 (T.appA hb1 ho1 hg1 hat1)
theorem appB_step (hgd : Region.wanted o (yielded ops a.tmps) = true) (s x : Operand) (ho : o.op = .call { callee := .builtin .append, args := #[s, x], argTypes := #[22, 22] })
    (u v r : Value) (xs P : List UInt8) (hs : a.eval s = v) (hx : a.eval x = r) (T : Two w0 W u v xs []) (HR : Rd kb w0 r P) (hl : P.length ≤ 8)
    (h : ∀ v1 w1, Two w0 w1 u v1 xs P → Kc (a.put o.dst v1) w1) :
    if Region.wanted o (yielded ops a.tmps) = true then Oper.wp Try.prog o a W Kc Q else Kc (a.put o.dst undef) W :=
  appA_step hgd s x ho v u r xs P hs hx T.turn HR hl fun v1 w1 h1 => h v1 w1 h1.turn
end

set_option maxRecDepth 100000 in
set_option maxHeartbeats 4000000 in
theorem rlist10_any : RList10 := by
  intro v b w hv hl
  have HR := Lib.hid hv
  obtain ⟨A0, c0, rfl, hc0, hF0⟩ := hv
  go_enter Try.func45, Try.ntmps45
  by_cases h8 : b.length < 8
  · have HD := Lib.hid (show Pl.dump b = [(false, [], [], 100, 0)] by unfold Pl.dump; rw [if_neg]; intro h; have := congrArg List.length h; simp [Pl.dumpHead] at this; omega)
    have hd : decide ((b.length : Int) < 8) = true := by simp; omega
    go_wp2_with fail
    go_ret
    rw [HD.out]
    exact ⟨_, rfl, Kd.R_N (item_oneR (Kd.R_nil _ _ _ _ _) (Kd.R_nil _ _ _ _ _) (Nat.le_refl _)), below_alloc (Below.refl _ _) _⟩
  · have hd : decide ((b.length : Int) < 8) = false := by simp; omega
    obtain ⟨hcut, hV⟩ := byte_to hF0 hc0 8 (by omega)
    replace hcut := hcut .i64 8 rfl
    have hV8 : Rd kb w (.slice A0 8 c0) (b.take 8) := Kd.V_mono hV fun _ _ => trivial
    have e1 := byte_string hV8
    clear hV hV8
    by_cases hh : b.take 8 = Pl.dumpHead
    · have hs : (!(b.take 8 == [99, 114, 101, 101, 108, 100, 109, 112])) = false := by rw [hh]; rfl
      have HD := Lib.hid (show Pl.dump b = Pl.eights b ((b.length - 8) / 8) ++ (if (b.length - 8) % 8 = 0 then [] else [(false, [], [], 5, 8 + 8 * (((b.length - 8) / 8 : Nat) : Int))]) by
        unfold Pl.dump
        rw [if_pos hh]
        have := Pl.dumpOf_eights b.length (b.drop 8) b 0 (by simp) (by simp)
        simp only [Nat.zero_add, List.length_drop] at this
        exact this)
      clear hh
      go_wp2_with fail
      go_loopw [3, 4] (fun o i wr => ∃ m k : Nat, i = .int .i64 (m : Int) ∧ Aside0 (m = 8 + 8 * k ∧ m ≤ b.length) ∧ Aside0 (Own kItem 36 wr w.heap.size o (Pl.eights b k)) ∧ Aside0 (Below w.heap.size w wr)) (fun _ i _ => b.length + 8 - (intOf i).toNat)
      case atStart => exact ⟨8, 0, rfl, ⟨rfl, by omega⟩, ⟨Own.nil kItem 36 w w.heap.size⟩, ⟨Below.refl _ _⟩⟩
      case round =>
        obtain ⟨m, k, rfl, hk, HO, HB⟩ := hrel
        have hszr := HB.out.size
        obtain ⟨M, hM⟩ : ∃ M, Pl.eights b k = M := ⟨_, rfl⟩
        have hfl : M.length ≤ 1000 := by rw [← hM, Pl.eights_len]; have := hk.out; omega
        have HMM := Lib.hid hM
        rw [hM] at HO
        clear hM
        obtain ⟨Ao, co, hvo⟩ := Kd.N_slice HO.out
        subst hvo
        have hm1 := hk.out.2
        have hw8 : IntKind.i64.wrap ((m : Int) + 8) = (m : Int) + 8 := IntWalk.i64_in _ (by omega)
        by_cases hlt : m + 8 ≤ b.length
        · have hle : decide ((m : Int) + 8 ≤ (b.length : Int)) = true := by simp; omega
          have hw4 : IntKind.i64.wrap ((m : Int) + 4) = (m : Int) + 4 := IntWalk.i64_in _ (by omega)
          have HRr := Lib.hid (Rd.below HR.out HB.out)
          obtain ⟨_, hFr⟩ := (Kd.V_at HRr.out).2
          obtain ⟨A1, cut1, hV1⟩ := byte_cut hFr hc0 m (m + 4) (by omega) (by omega)
          obtain ⟨A2, cut2, hV2⟩ := byte_cut hFr hc0 (m + 4) (m + 8) (by omega) (by omega)
          replace cut1 := cut1 .i64 .i64 (m : Int) ((m : Int) + 4) rfl (by omega)
          replace cut2 := cut2 .i64 .i64 ((m : Int) + 4) ((m : Int) + 8) (by omega) (by omega)
          rw [List.drop_take] at hV1 hV2
          rw [show m + 4 - m = 4 by omega] at hV1 cut1
          rw [show m + 8 - (m + 4) = 4 by omega] at hV2 cut2
          obtain ⟨n4, hn4⟩ : ∃ n : Nat, 4 = n := ⟨_, rfl⟩
          obtain ⟨P, hP⟩ : ∃ P, (b.drop m).take 4 = P := ⟨_, rfl⟩
          obtain ⟨P2, hP2⟩ : ∃ P2, (b.drop (m + 4)).take 4 = P2 := ⟨_, rfl⟩
          have hpl : P.length ≤ 8 := by rw [← hP]; simp; omega
          have hql : P2.length ≤ 8 := by rw [← hP2]; simp; omega
          have HN := Lib.hid (show Pl.eights b (k + 1) = M ++ [(true, P, P2, 0, 0)] by rw [Pl.eights_succ, HMM.out, ← hP, ← hP2, show m = 8 + 8 * k from hk.out.1, show 8 + 8 * k + 4 = 12 + 8 * k by omega])
          rw [hP] at hV1
          rw [hP2] at hV2
          rw [hn4] at hV1 hV2 cut1 cut2
          have HP := Lib.hid (Kd.V_mono hV1 fun _ _ => trivial : Rd kb wr _ P)
          have HQ := Lib.hid (Kd.V_mono hV2 fun _ _ => trivial : Rd kb wr _ P2)
          clear hV1 hV2 hP hP2 hFr
          have q1 : (0 : Int) ≤ (n4 : Int) := by omega
          have q2 : (n4 : Int) ≤ 4 := by omega
          clear hn4
          have T0 := Two.start wr
          go_wp2_with fail
          refine wp_region_noPanic ?_
          refine wp_region_held_drew (S := (fun W => True)) (by kernel_rfl) ?_ (fun hHeld => ?_)
          · trivial
          refine wpAnyH_take (i := 0) (oi := ?oip0) (v := ?vp0) ?hip0 (by kernel_rfl) (by kernel_rfl) (by kernel_rfl) (fun _ _ _ h => h) (Or.inl ⟨?wtp0, ?hyp0⟩) (by assumption) ?restp0
          case hip0 => (simp only [List.getElem?_toArray, List.getElem?_cons_succ, List.getElem?_cons_zero]; rfl)
          case wtp0 => rfl
          case hyp0 => (intro w hSw; (try dsimp only at hSw); go_simp) <;> (first | done | with_reducible rfl)
          (try simp only [Act.put, List.setIfInBounds_toArray, List.set_cons_zero, List.set_cons_succ])
          refine wpAnyH_take (i := 2) (oi := ?oip2) (v := ?vp2) ?hip2 (by kernel_rfl) (by kernel_rfl) (by kernel_rfl) (fun _ _ _ h => h) (Or.inl ⟨?wtp2, ?hyp2⟩) (by assumption) ?restp2
          case hip2 => (simp only [List.getElem?_toArray, List.getElem?_cons_succ, List.getElem?_cons_zero]; rfl)
          case wtp2 => rfl
          case hyp2 => (intro w hSw; (try dsimp only at hSw); go_simp) <;> (first | done | with_reducible rfl)
          (try simp only [Act.put, List.setIfInBounds_toArray, List.set_cons_zero, List.set_cons_succ])
          refine wpAnyH_take (i := 3) (oi := ?oip3) (v := ?vp3) ?hip3 (by kernel_rfl) (by kernel_rfl) (by kernel_rfl) (fun _ _ _ h => h) (Or.inl ⟨?wtp3, ?hyp3⟩) (by assumption) ?restp3
          case hip3 => (simp only [List.getElem?_toArray, List.getElem?_cons_succ, List.getElem?_cons_zero]; rfl)
          case wtp3 => rfl
          case hyp3 => (intro w hSw; (try dsimp only at hSw); go_simp) <;> (first | done | with_reducible rfl)
          (try simp only [Act.put, List.setIfInBounds_toArray, List.set_cons_zero, List.set_cons_succ])
          refine wpAnyH_take (i := 4) (oi := ?oip4) (v := ?vp4) ?hip4 (by kernel_rfl) (by kernel_rfl) (by kernel_rfl) (fun _ _ _ h => h) (Or.inl ⟨?wtp4, ?hyp4⟩) (by assumption) ?restp4
          case hip4 => (simp only [List.getElem?_toArray, List.getElem?_cons_succ, List.getElem?_cons_zero]; rfl)
          case wtp4 => rfl
          case hyp4 => (intro w hSw; (try dsimp only at hSw); go_simp) <;> (first | done | with_reducible rfl)
          (try simp only [Act.put, List.setIfInBounds_toArray, List.set_cons_zero, List.set_cons_succ])
          refine wpAnyH_take (i := 5) (oi := ?oip5) (v := ?vp5) ?hip5 (by kernel_rfl) (by kernel_rfl) (by kernel_rfl) (fun _ _ _ h => h) (Or.inl ⟨?wtp5, ?hyp5⟩) (by assumption) ?restp5
          case hip5 => (simp only [List.getElem?_toArray, List.getElem?_cons_succ, List.getElem?_cons_zero]; rfl)
          case wtp5 => rfl
          case hyp5 => (intro w hSw; (try dsimp only at hSw); go_simp) <;> (first | done | with_reducible rfl)
          (try simp only [Act.put, List.setIfInBounds_toArray, List.set_cons_zero, List.set_cons_succ])
          refine wpAnyH_take (i := 6) (oi := ?oip6) (v := ?vp6) ?hip6 (by kernel_rfl) (by kernel_rfl) (by kernel_rfl) (fun _ _ _ h => h) (Or.inl ⟨?wtp6, ?hyp6⟩) (by assumption) ?restp6
          case hip6 => (simp only [List.getElem?_toArray, List.getElem?_cons_succ, List.getElem?_cons_zero]; rfl)
          case wtp6 => rfl
          case hyp6 => (intro w hSw; (try dsimp only at hSw); go_simp) <;> (first | done | with_reducible rfl)
          (try simp only [Act.put, List.setIfInBounds_toArray, List.set_cons_zero, List.set_cons_succ])
          refine wpAnyH_take (i := 9) (oi := ?oip9) (v := ?vp9) ?hip9 (by kernel_rfl) (by kernel_rfl) (by kernel_rfl) (fun _ _ _ h => h) (Or.inl ⟨?wtp9, ?hyp9⟩) (by assumption) ?restp9
          case hip9 => (simp only [List.getElem?_toArray, List.getElem?_cons_succ, List.getElem?_cons_zero]; rfl)
          case wtp9 => rfl
          case hyp9 => (intro w hSw; (try dsimp only at hSw); go_simp) <;> (first | done | with_reducible rfl)
          (try simp only [Act.put, List.setIfInBounds_toArray, List.set_cons_zero, List.set_cons_succ])
          refine wpAnyH_take (i := 10) (oi := ?oip10) (v := ?vp10) ?hip10 (by kernel_rfl) (by kernel_rfl) (by kernel_rfl) (fun _ _ _ h => h) (Or.inl ⟨?wtp10, ?hyp10⟩) (by assumption) ?restp10
          case hip10 => (simp only [List.getElem?_toArray, List.getElem?_cons_succ, List.getElem?_cons_zero]; rfl)
          case wtp10 => rfl
          case hyp10 => (intro w hSw; (try dsimp only at hSw); go_simp) <;> (first | done | with_reducible rfl)
          (try simp only [Act.put, List.setIfInBounds_toArray, List.set_cons_zero, List.set_cons_succ])
          refine wpAnyH_take (i := 11) (oi := ?oip11) (v := ?vp11) ?hip11 (by kernel_rfl) (by kernel_rfl) (by kernel_rfl) (fun _ _ _ h => h) (Or.inl ⟨?wtp11, ?hyp11⟩) (by assumption) ?restp11
          case hip11 => (simp only [List.getElem?_toArray, List.getElem?_cons_succ, List.getElem?_cons_zero]; rfl)
          case wtp11 => rfl
          case hyp11 => (intro w hSw; (try dsimp only at hSw); go_simp) <;> (first | done | with_reducible rfl)
          (try simp only [Act.put, List.setIfInBounds_toArray, List.set_cons_zero, List.set_cons_succ])
          refine wpAnyH_take (i := 12) (oi := ?oip12) (v := ?vp12) ?hip12 (by kernel_rfl) (by kernel_rfl) (by kernel_rfl) (fun _ _ _ h => h) (Or.inl ⟨?wtp12, ?hyp12⟩) (by assumption) ?restp12
          case hip12 => (simp only [List.getElem?_toArray, List.getElem?_cons_succ, List.getElem?_cons_zero]; rfl)
          case wtp12 => rfl
          case hyp12 => (intro w hSw; (try dsimp only at hSw); go_simp) <;> (first | done | with_reducible rfl)
          (try simp only [Act.put, List.setIfInBounds_toArray, List.set_cons_zero, List.set_cons_succ])
          refine wpAnyH_take (i := 13) (oi := ?oip13) (v := ?vp13) ?hip13 (by kernel_rfl) (by kernel_rfl) (by kernel_rfl) (fun _ _ _ h => h) (Or.inl ⟨?wtp13, ?hyp13⟩) (by assumption) ?restp13
          case hip13 => (simp only [List.getElem?_toArray, List.getElem?_cons_succ, List.getElem?_cons_zero]; rfl)
          case wtp13 => rfl
          case hyp13 => (intro w hSw; (try dsimp only at hSw); go_simp) <;> (first | done | with_reducible rfl)
          (try simp only [Act.put, List.setIfInBounds_toArray, List.set_cons_zero, List.set_cons_succ])
          refine wpAnyH_take (i := 14) (oi := ?oip14) (v := ?vp14) ?hip14 (by kernel_rfl) (by kernel_rfl) (by kernel_rfl) (fun _ _ _ h => h) (Or.inl ⟨?wtp14, ?hyp14⟩) (by assumption) ?restp14
          case hip14 => (simp only [List.getElem?_toArray, List.getElem?_cons_succ, List.getElem?_cons_zero]; rfl)
          case wtp14 => rfl
          case hyp14 => (intro w hSw; (try dsimp only at hSw); go_simp) <;> (first | done | with_reducible rfl)
          (try simp only [Act.put, List.setIfInBounds_toArray, List.set_cons_zero, List.set_cons_succ])
          refine wpAnyH_ready (rs := [1, 8]) (by kernel_rfl) (by simp) ?_
          refine AllReadyH.cons rfl (fun K hK => ?_) (AllReadyH.cons rfl (fun K hK => ?_) AllReadyH.nil)
          · go_simp
            refine hK.out _ _ ?_ (fun hHeld => ?_)
            · trivial
            clear hK K
            (try simp only [Act.put, List.setIfInBounds_toArray, List.set_cons_zero, List.set_cons_succ])
            refine wpAnyH_ready (rs := [7, 8]) (by kernel_rfl) (by simp) ?_
            refine AllReadyH.cons rfl (fun K hK => ?_) (AllReadyH.cons rfl (fun K hK => ?_) AllReadyH.nil)
            · (refine appA_step (w0 := wr) rfl (.tmp 22) (.tmp 27) rfl _ _ _ _ P rfl rfl (by first | exact Two.drew (TT) | exact TT | exact Two.drew (Two.litB TT _ (by simp)) | exact Two.litB TT _ (by simp) | exact Two.drew (Two.litA T0 wr.heap.size rfl) | exact Two.litA T0 wr.heap.size rfl | exact Two.drew (Two.litB (Two.litA T0 wr.heap.size rfl) (wr.heap.size + 1) (by simp)) | exact Two.litB (Two.litA T0 wr.heap.size rfl) (wr.heap.size + 1) (by simp) | exact Two.drew (Two.litA (Two.litB T0 wr.heap.size rfl) (wr.heap.size + 1) (by simp)) | exact Two.litA (Two.litB T0 wr.heap.size rfl) (wr.heap.size + 1) (by simp)) HP.out hpl ?_; intro v28 w28 TT; obtain ⟨A28, c28, hv28⟩ := Kd.N_slice TT.a; subst hv28)
              refine hK.out _ _ ?_ (fun hHeld => ?_)
              · trivial
              clear hK K
              (try simp only [Act.put, List.setIfInBounds_toArray, List.set_cons_zero, List.set_cons_succ])
              refine wpAnyH_ready (rs := [8]) (by kernel_rfl) (by simp) ?_
              refine AllReadyH.cons rfl (fun K hK => ?_) AllReadyH.nil
              go_simp
              refine hK.out _ _ ?_ (fun hHeld => ?_)
              · trivial
              clear hK K
              (try simp only [Act.put, List.setIfInBounds_toArray, List.set_cons_zero, List.set_cons_succ])
              refine wpAnyH_ready (rs := [15]) (by kernel_rfl) (by simp) ?_
              refine AllReadyH.cons rfl (fun K hK => ?_) AllReadyH.nil
              (refine appB_step (w0 := wr) rfl (.tmp 29) (.tmp 35) rfl _ _ _ _ P2 rfl rfl (by first | exact Two.drew (TT) | exact TT | exact Two.drew (Two.litB TT _ (by simp)) | exact Two.litB TT _ (by simp) | exact Two.drew (Two.litA T0 wr.heap.size rfl) | exact Two.litA T0 wr.heap.size rfl | exact Two.drew (Two.litB (Two.litA T0 wr.heap.size rfl) (wr.heap.size + 1) (by simp)) | exact Two.litB (Two.litA T0 wr.heap.size rfl) (wr.heap.size + 1) (by simp) | exact Two.drew (Two.litA (Two.litB T0 wr.heap.size rfl) (wr.heap.size + 1) (by simp)) | exact Two.litA (Two.litB T0 wr.heap.size rfl) (wr.heap.size + 1) (by simp)) HQ.out hql ?_; intro v36 w36 TT; obtain ⟨A36, c36, hv36⟩ := Kd.N_slice TT.b; subst hv36)
              refine hK.out _ _ ?_ (fun hHeld => ?_)
              · trivial
              clear hK K
              (try simp only [Act.put, List.setIfInBounds_toArray, List.set_cons_zero, List.set_cons_succ])
              refine wpAnyH_take (i := 16) (oi := ?oiqaa16) (v := ?vqaa16) ?hiqaa16 (by kernel_rfl) (by kernel_rfl) (by kernel_rfl) (fun _ _ _ h => h) (Or.inl ⟨?wtqaa16, ?hyqaa16⟩) (by assumption) ?restqaa16
              case hiqaa16 => (simp only [List.getElem?_toArray, List.getElem?_cons_succ, List.getElem?_cons_zero]; rfl)
              case wtqaa16 => rfl
              case hyqaa16 => (intro w hSw; (try dsimp only at hSw); go_simp) <;> (first | done | with_reducible rfl)
              (try simp only [Act.put, List.setIfInBounds_toArray, List.set_cons_zero, List.set_cons_succ])
              refine wpAnyH_ready (rs := [17]) (by kernel_rfl) (by simp) ?_
              refine AllReadyH.cons rfl (fun K hK => ?_) AllReadyH.nil
              go_simp
              refine hK.out _ _ ?_ (fun hHeld => ?_)
              · trivial
              clear hK K
              (try simp only [Act.put, List.setIfInBounds_toArray, List.set_cons_zero, List.set_cons_succ])
              refine wpAnyH_ready (rs := [18]) (by kernel_rfl) (by simp) ?_
              refine AllReadyH.cons rfl (fun K hK => ?_) AllReadyH.nil
              (first | (refine Kd.N_append_step kItem (w0 := w) (W := w28) w.heap.size rfl (.tmp 21) (.tmp 38) 29 36 (.agg #[.bool false, .slice none 0 0, .slice none 0 0, .int .i64 0, .int .i64 0]) 72 rfl Try.underlying29 infoItem5 rfl (by decide) (by omega) _ M (true, P, P2, 0, 0) [.bool true, .slice A28 P.length c28, .slice A36 P2.length c36, .int .i64 0, .int .i64 0] (fun j => w.heap.size ≤ j) (fun j => wr.heap.size ≤ j) rfl rfl ?aP3 ?aQ3 ?aF3 ?aO3 ?aB3 ?aS3 ?aL3 ?_; (case aP3 => exact item_FK TT.a.v TT.b.v); (case aQ3 => exact fun j hj => ⟨Nat.le_trans HB.out.size hj, fun he => by have := HO.out.lt j he.symm; omega⟩); (case aF3 => exact fun j hj => Nat.le_trans (Nat.le_trans HB.out.size TT.bl.size) hj); (case aO3 => exact Kd.N_below HO.out TT.bl); (case aB3 => exact bthen HB.out TT.bl); (case aS3 => exact Nat.le_trans HB.out.size TT.bl.size); (case aL3 => omega); intro v9 w9 ho9 hb9 hg9 hat9) | (refine Kd.N_append_step kItem (w0 := w) (W := w36) w.heap.size rfl (.tmp 21) (.tmp 38) 29 36 (.agg #[.bool false, .slice none 0 0, .slice none 0 0, .int .i64 0, .int .i64 0]) 72 rfl Try.underlying29 infoItem5 rfl (by decide) (by omega) _ M (true, P, P2, 0, 0) [.bool true, .slice A28 P.length c28, .slice A36 P2.length c36, .int .i64 0, .int .i64 0] (fun j => w.heap.size ≤ j) (fun j => wr.heap.size ≤ j) rfl rfl ?aP3 ?aQ3 ?aF3 ?aO3 ?aB3 ?aS3 ?aL3 ?_; (case aP3 => exact item_FK TT.a.v TT.b.v); (case aQ3 => exact fun j hj => ⟨Nat.le_trans HB.out.size hj, fun he => by have := HO.out.lt j he.symm; omega⟩); (case aF3 => exact fun j hj => Nat.le_trans (Nat.le_trans HB.out.size TT.bl.size) hj); (case aO3 => exact Kd.N_below HO.out TT.bl); (case aB3 => exact bthen HB.out TT.bl); (case aS3 => exact Nat.le_trans HB.out.size TT.bl.size); (case aL3 => omega); intro v9 w9 ho9 hb9 hg9 hat9))
              refine hK.out _ _ ?_ (fun hHeld => ?_)
              · trivial
              clear hK K
              (try simp only [Act.put, List.setIfInBounds_toArray, List.set_cons_zero, List.set_cons_succ])
              refine wpAnyH_take (i := 19) (oi := ?oiqaa19) (v := ?vqaa19) ?hiqaa19 (by kernel_rfl) (by kernel_rfl) (by kernel_rfl) (fun _ _ _ h => h) (Or.inl ⟨?wtqaa19, ?hyqaa19⟩) (by assumption) ?restqaa19
              case hiqaa19 => (simp only [List.getElem?_toArray, List.getElem?_cons_succ, List.getElem?_cons_zero]; rfl)
              case wtqaa19 => rfl
              case hyqaa19 => (intro w hSw; (try dsimp only at hSw); go_simp) <;> (first | done | with_reducible rfl)
              (try simp only [Act.put, List.setIfInBounds_toArray, List.set_cons_zero, List.set_cons_succ])
              refine wpAnyH_done (by kernel_rfl) ?_ _
              refine NoPanic.normal ?_
              go_wp2
              go_roundw
              case rel => exact ⟨m + 8, k + 1, by go_num, ⟨by have := hk.out.1; omega, by omega⟩, ⟨by rw [HN.out]; exact ho9⟩, ⟨hb9⟩⟩
              case measure => simp [intOf]; omega
            · go_simp
              refine hK.out _ _ ?_ (fun hHeld => ?_)
              · trivial
              clear hK K
              (try simp only [Act.put, List.setIfInBounds_toArray, List.set_cons_zero, List.set_cons_succ])
              refine wpAnyH_ready (rs := [7]) (by kernel_rfl) (by simp) ?_
              refine AllReadyH.cons rfl (fun K hK => ?_) AllReadyH.nil
              (refine appA_step (w0 := wr) rfl (.tmp 22) (.tmp 27) rfl _ _ _ _ P rfl rfl (by first | exact Two.drew (TT) | exact TT | exact Two.drew (Two.litB TT _ (by simp)) | exact Two.litB TT _ (by simp) | exact Two.drew (Two.litA T0 wr.heap.size rfl) | exact Two.litA T0 wr.heap.size rfl | exact Two.drew (Two.litB (Two.litA T0 wr.heap.size rfl) (wr.heap.size + 1) (by simp)) | exact Two.litB (Two.litA T0 wr.heap.size rfl) (wr.heap.size + 1) (by simp) | exact Two.drew (Two.litA (Two.litB T0 wr.heap.size rfl) (wr.heap.size + 1) (by simp)) | exact Two.litA (Two.litB T0 wr.heap.size rfl) (wr.heap.size + 1) (by simp)) HP.out hpl ?_; intro v28 w28 TT; obtain ⟨A28, c28, hv28⟩ := Kd.N_slice TT.a; subst hv28)
              refine hK.out _ _ ?_ (fun hHeld => ?_)
              · trivial
              clear hK K
              (try simp only [Act.put, List.setIfInBounds_toArray, List.set_cons_zero, List.set_cons_succ])
              refine wpAnyH_ready (rs := [15]) (by kernel_rfl) (by simp) ?_
              refine AllReadyH.cons rfl (fun K hK => ?_) AllReadyH.nil
              (refine appB_step (w0 := wr) rfl (.tmp 29) (.tmp 35) rfl _ _ _ _ P2 rfl rfl (by first | exact Two.drew (TT) | exact TT | exact Two.drew (Two.litB TT _ (by simp)) | exact Two.litB TT _ (by simp) | exact Two.drew (Two.litA T0 wr.heap.size rfl) | exact Two.litA T0 wr.heap.size rfl | exact Two.drew (Two.litB (Two.litA T0 wr.heap.size rfl) (wr.heap.size + 1) (by simp)) | exact Two.litB (Two.litA T0 wr.heap.size rfl) (wr.heap.size + 1) (by simp) | exact Two.drew (Two.litA (Two.litB T0 wr.heap.size rfl) (wr.heap.size + 1) (by simp)) | exact Two.litA (Two.litB T0 wr.heap.size rfl) (wr.heap.size + 1) (by simp)) HQ.out hql ?_; intro v36 w36 TT; obtain ⟨A36, c36, hv36⟩ := Kd.N_slice TT.b; subst hv36)
              refine hK.out _ _ ?_ (fun hHeld => ?_)
              · trivial
              clear hK K
              (try simp only [Act.put, List.setIfInBounds_toArray, List.set_cons_zero, List.set_cons_succ])
              refine wpAnyH_take (i := 16) (oi := ?oiqab16) (v := ?vqab16) ?hiqab16 (by kernel_rfl) (by kernel_rfl) (by kernel_rfl) (fun _ _ _ h => h) (Or.inl ⟨?wtqab16, ?hyqab16⟩) (by assumption) ?restqab16
              case hiqab16 => (simp only [List.getElem?_toArray, List.getElem?_cons_succ, List.getElem?_cons_zero]; rfl)
              case wtqab16 => rfl
              case hyqab16 => (intro w hSw; (try dsimp only at hSw); go_simp) <;> (first | done | with_reducible rfl)
              (try simp only [Act.put, List.setIfInBounds_toArray, List.set_cons_zero, List.set_cons_succ])
              refine wpAnyH_ready (rs := [17]) (by kernel_rfl) (by simp) ?_
              refine AllReadyH.cons rfl (fun K hK => ?_) AllReadyH.nil
              go_simp
              refine hK.out _ _ ?_ (fun hHeld => ?_)
              · trivial
              clear hK K
              (try simp only [Act.put, List.setIfInBounds_toArray, List.set_cons_zero, List.set_cons_succ])
              refine wpAnyH_ready (rs := [18]) (by kernel_rfl) (by simp) ?_
              refine AllReadyH.cons rfl (fun K hK => ?_) AllReadyH.nil
              (first | (refine Kd.N_append_step kItem (w0 := w) (W := w28) w.heap.size rfl (.tmp 21) (.tmp 38) 29 36 (.agg #[.bool false, .slice none 0 0, .slice none 0 0, .int .i64 0, .int .i64 0]) 72 rfl Try.underlying29 infoItem5 rfl (by decide) (by omega) _ M (true, P, P2, 0, 0) [.bool true, .slice A28 P.length c28, .slice A36 P2.length c36, .int .i64 0, .int .i64 0] (fun j => w.heap.size ≤ j) (fun j => wr.heap.size ≤ j) rfl rfl ?aP6 ?aQ6 ?aF6 ?aO6 ?aB6 ?aS6 ?aL6 ?_; (case aP6 => exact item_FK TT.a.v TT.b.v); (case aQ6 => exact fun j hj => ⟨Nat.le_trans HB.out.size hj, fun he => by have := HO.out.lt j he.symm; omega⟩); (case aF6 => exact fun j hj => Nat.le_trans (Nat.le_trans HB.out.size TT.bl.size) hj); (case aO6 => exact Kd.N_below HO.out TT.bl); (case aB6 => exact bthen HB.out TT.bl); (case aS6 => exact Nat.le_trans HB.out.size TT.bl.size); (case aL6 => omega); intro v9 w9 ho9 hb9 hg9 hat9) | (refine Kd.N_append_step kItem (w0 := w) (W := w36) w.heap.size rfl (.tmp 21) (.tmp 38) 29 36 (.agg #[.bool false, .slice none 0 0, .slice none 0 0, .int .i64 0, .int .i64 0]) 72 rfl Try.underlying29 infoItem5 rfl (by decide) (by omega) _ M (true, P, P2, 0, 0) [.bool true, .slice A28 P.length c28, .slice A36 P2.length c36, .int .i64 0, .int .i64 0] (fun j => w.heap.size ≤ j) (fun j => wr.heap.size ≤ j) rfl rfl ?aP6 ?aQ6 ?aF6 ?aO6 ?aB6 ?aS6 ?aL6 ?_; (case aP6 => exact item_FK TT.a.v TT.b.v); (case aQ6 => exact fun j hj => ⟨Nat.le_trans HB.out.size hj, fun he => by have := HO.out.lt j he.symm; omega⟩); (case aF6 => exact fun j hj => Nat.le_trans (Nat.le_trans HB.out.size TT.bl.size) hj); (case aO6 => exact Kd.N_below HO.out TT.bl); (case aB6 => exact bthen HB.out TT.bl); (case aS6 => exact Nat.le_trans HB.out.size TT.bl.size); (case aL6 => omega); intro v9 w9 ho9 hb9 hg9 hat9))
              refine hK.out _ _ ?_ (fun hHeld => ?_)
              · trivial
              clear hK K
              (try simp only [Act.put, List.setIfInBounds_toArray, List.set_cons_zero, List.set_cons_succ])
              refine wpAnyH_take (i := 19) (oi := ?oiqab19) (v := ?vqab19) ?hiqab19 (by kernel_rfl) (by kernel_rfl) (by kernel_rfl) (fun _ _ _ h => h) (Or.inl ⟨?wtqab19, ?hyqab19⟩) (by assumption) ?restqab19
              case hiqab19 => (simp only [List.getElem?_toArray, List.getElem?_cons_succ, List.getElem?_cons_zero]; rfl)
              case wtqab19 => rfl
              case hyqab19 => (intro w hSw; (try dsimp only at hSw); go_simp) <;> (first | done | with_reducible rfl)
              (try simp only [Act.put, List.setIfInBounds_toArray, List.set_cons_zero, List.set_cons_succ])
              refine wpAnyH_done (by kernel_rfl) ?_ _
              refine NoPanic.normal ?_
              go_wp2
              go_roundw
              case rel => exact ⟨m + 8, k + 1, by go_num, ⟨by have := hk.out.1; omega, by omega⟩, ⟨by rw [HN.out]; exact ho9⟩, ⟨hb9⟩⟩
              case measure => simp [intOf]; omega
          · go_simp
            refine hK.out _ _ ?_ (fun hHeld => ?_)
            · trivial
            clear hK K
            (try simp only [Act.put, List.setIfInBounds_toArray, List.set_cons_zero, List.set_cons_succ])
            refine wpAnyH_ready (rs := [1]) (by kernel_rfl) (by simp) ?_
            refine AllReadyH.cons rfl (fun K hK => ?_) AllReadyH.nil
            go_simp
            refine hK.out _ _ ?_ (fun hHeld => ?_)
            · trivial
            clear hK K
            (try simp only [Act.put, List.setIfInBounds_toArray, List.set_cons_zero, List.set_cons_succ])
            refine wpAnyH_ready (rs := [7]) (by kernel_rfl) (by simp) ?_
            refine AllReadyH.cons rfl (fun K hK => ?_) AllReadyH.nil
            (refine appA_step (w0 := wr) rfl (.tmp 22) (.tmp 27) rfl _ _ _ _ P rfl rfl (by first | exact Two.drew (TT) | exact TT | exact Two.drew (Two.litB TT _ (by simp)) | exact Two.litB TT _ (by simp) | exact Two.drew (Two.litA T0 wr.heap.size rfl) | exact Two.litA T0 wr.heap.size rfl | exact Two.drew (Two.litB (Two.litA T0 wr.heap.size rfl) (wr.heap.size + 1) (by simp)) | exact Two.litB (Two.litA T0 wr.heap.size rfl) (wr.heap.size + 1) (by simp) | exact Two.drew (Two.litA (Two.litB T0 wr.heap.size rfl) (wr.heap.size + 1) (by simp)) | exact Two.litA (Two.litB T0 wr.heap.size rfl) (wr.heap.size + 1) (by simp)) HP.out hpl ?_; intro v28 w28 TT; obtain ⟨A28, c28, hv28⟩ := Kd.N_slice TT.a; subst hv28)
            refine hK.out _ _ ?_ (fun hHeld => ?_)
            · trivial
            clear hK K
            (try simp only [Act.put, List.setIfInBounds_toArray, List.set_cons_zero, List.set_cons_succ])
            refine wpAnyH_ready (rs := [15]) (by kernel_rfl) (by simp) ?_
            refine AllReadyH.cons rfl (fun K hK => ?_) AllReadyH.nil
            (refine appB_step (w0 := wr) rfl (.tmp 29) (.tmp 35) rfl _ _ _ _ P2 rfl rfl (by first | exact Two.drew (TT) | exact TT | exact Two.drew (Two.litB TT _ (by simp)) | exact Two.litB TT _ (by simp) | exact Two.drew (Two.litA T0 wr.heap.size rfl) | exact Two.litA T0 wr.heap.size rfl | exact Two.drew (Two.litB (Two.litA T0 wr.heap.size rfl) (wr.heap.size + 1) (by simp)) | exact Two.litB (Two.litA T0 wr.heap.size rfl) (wr.heap.size + 1) (by simp) | exact Two.drew (Two.litA (Two.litB T0 wr.heap.size rfl) (wr.heap.size + 1) (by simp)) | exact Two.litA (Two.litB T0 wr.heap.size rfl) (wr.heap.size + 1) (by simp)) HQ.out hql ?_; intro v36 w36 TT; obtain ⟨A36, c36, hv36⟩ := Kd.N_slice TT.b; subst hv36)
            refine hK.out _ _ ?_ (fun hHeld => ?_)
            · trivial
            clear hK K
            (try simp only [Act.put, List.setIfInBounds_toArray, List.set_cons_zero, List.set_cons_succ])
            refine wpAnyH_take (i := 16) (oi := ?oiqb16) (v := ?vqb16) ?hiqb16 (by kernel_rfl) (by kernel_rfl) (by kernel_rfl) (fun _ _ _ h => h) (Or.inl ⟨?wtqb16, ?hyqb16⟩) (by assumption) ?restqb16
            case hiqb16 => (simp only [List.getElem?_toArray, List.getElem?_cons_succ, List.getElem?_cons_zero]; rfl)
            case wtqb16 => rfl
            case hyqb16 => (intro w hSw; (try dsimp only at hSw); go_simp) <;> (first | done | with_reducible rfl)
            (try simp only [Act.put, List.setIfInBounds_toArray, List.set_cons_zero, List.set_cons_succ])
            refine wpAnyH_ready (rs := [17]) (by kernel_rfl) (by simp) ?_
            refine AllReadyH.cons rfl (fun K hK => ?_) AllReadyH.nil
            go_simp
            refine hK.out _ _ ?_ (fun hHeld => ?_)
            · trivial
            clear hK K
            (try simp only [Act.put, List.setIfInBounds_toArray, List.set_cons_zero, List.set_cons_succ])
            refine wpAnyH_ready (rs := [18]) (by kernel_rfl) (by simp) ?_
            refine AllReadyH.cons rfl (fun K hK => ?_) AllReadyH.nil
            (first | (refine Kd.N_append_step kItem (w0 := w) (W := w28) w.heap.size rfl (.tmp 21) (.tmp 38) 29 36 (.agg #[.bool false, .slice none 0 0, .slice none 0 0, .int .i64 0, .int .i64 0]) 72 rfl Try.underlying29 infoItem5 rfl (by decide) (by omega) _ M (true, P, P2, 0, 0) [.bool true, .slice A28 P.length c28, .slice A36 P2.length c36, .int .i64 0, .int .i64 0] (fun j => w.heap.size ≤ j) (fun j => wr.heap.size ≤ j) rfl rfl ?aP9 ?aQ9 ?aF9 ?aO9 ?aB9 ?aS9 ?aL9 ?_; (case aP9 => exact item_FK TT.a.v TT.b.v); (case aQ9 => exact fun j hj => ⟨Nat.le_trans HB.out.size hj, fun he => by have := HO.out.lt j he.symm; omega⟩); (case aF9 => exact fun j hj => Nat.le_trans (Nat.le_trans HB.out.size TT.bl.size) hj); (case aO9 => exact Kd.N_below HO.out TT.bl); (case aB9 => exact bthen HB.out TT.bl); (case aS9 => exact Nat.le_trans HB.out.size TT.bl.size); (case aL9 => omega); intro v9 w9 ho9 hb9 hg9 hat9) | (refine Kd.N_append_step kItem (w0 := w) (W := w36) w.heap.size rfl (.tmp 21) (.tmp 38) 29 36 (.agg #[.bool false, .slice none 0 0, .slice none 0 0, .int .i64 0, .int .i64 0]) 72 rfl Try.underlying29 infoItem5 rfl (by decide) (by omega) _ M (true, P, P2, 0, 0) [.bool true, .slice A28 P.length c28, .slice A36 P2.length c36, .int .i64 0, .int .i64 0] (fun j => w.heap.size ≤ j) (fun j => wr.heap.size ≤ j) rfl rfl ?aP9 ?aQ9 ?aF9 ?aO9 ?aB9 ?aS9 ?aL9 ?_; (case aP9 => exact item_FK TT.a.v TT.b.v); (case aQ9 => exact fun j hj => ⟨Nat.le_trans HB.out.size hj, fun he => by have := HO.out.lt j he.symm; omega⟩); (case aF9 => exact fun j hj => Nat.le_trans (Nat.le_trans HB.out.size TT.bl.size) hj); (case aO9 => exact Kd.N_below HO.out TT.bl); (case aB9 => exact bthen HB.out TT.bl); (case aS9 => exact Nat.le_trans HB.out.size TT.bl.size); (case aL9 => omega); intro v9 w9 ho9 hb9 hg9 hat9))
            refine hK.out _ _ ?_ (fun hHeld => ?_)
            · trivial
            clear hK K
            (try simp only [Act.put, List.setIfInBounds_toArray, List.set_cons_zero, List.set_cons_succ])
            refine wpAnyH_take (i := 19) (oi := ?oiqb19) (v := ?vqb19) ?hiqb19 (by kernel_rfl) (by kernel_rfl) (by kernel_rfl) (fun _ _ _ h => h) (Or.inl ⟨?wtqb19, ?hyqb19⟩) (by assumption) ?restqb19
            case hiqb19 => (simp only [List.getElem?_toArray, List.getElem?_cons_succ, List.getElem?_cons_zero]; rfl)
            case wtqb19 => rfl
            case hyqb19 => (intro w hSw; (try dsimp only at hSw); go_simp) <;> (first | done | with_reducible rfl)
            (try simp only [Act.put, List.setIfInBounds_toArray, List.set_cons_zero, List.set_cons_succ])
            refine wpAnyH_done (by kernel_rfl) ?_ _
            refine NoPanic.normal ?_
            go_wp2
            go_roundw
            case rel => exact ⟨m + 8, k + 1, by go_num, ⟨by have := hk.out.1; omega, by omega⟩, ⟨by rw [HN.out]; exact ho9⟩, ⟨hb9⟩⟩
            case measure => simp [intOf]; omega
        · have hle : decide ((m : Int) + 8 ≤ (b.length : Int)) = false := by simp; omega
          have hq : (b.length - 8) / 8 = k := by have := hk.out.1; omega
          by_cases hend : m < b.length
          · have hd2 : decide ((m : Int) < (b.length : Int)) = true := by simp; omega
            have HD2 := Lib.hid (show Pl.dump b = M ++ [(false, [], [], 5, (m : Int))] by rw [HD.out, hq, HMM.out, if_neg (by have := hk.out.1; omega), show (m : Int) = 8 + 8 * (k : Int) by have := hk.out.1; omega])
            clear hq
            go_wp2_with (first | ((with_reducible refine gate_builtin (b := .append) (xs := #[.tmp 46, .tmp 49]) rfl ?_); at_builtin; refine wpList_step fun K hK => ?_; refine Kd.N_append_step kItem (w0 := w) (W := wr) w.heap.size rfl (.tmp 46) (.tmp 49) 29 36 (.agg #[.bool false, .slice none 0 0, .slice none 0 0, .int .i64 0, .int .i64 0]) 72 rfl Try.underlying29 infoItem5 rfl (by decide) (by omega) _ M (false, [], [], 5, (m : Int)) [.bool false, .slice none 0 0, .slice none 0 0, .int .i64 5, .int .i64 (m : Int)] (fun j => w.heap.size ≤ j) (fun j => wr.heap.size ≤ j) rfl rfl ?aP ?aQ ?aF HO.out HB.out HB.out.size ?aL ?_; (case aP => exact item_FK (V_nil _) (V_nil _)); (case aQ => exact fun j hj => ⟨Nat.le_trans HB.out.size hj, fun he => by have := HO.out.lt j he.symm; omega⟩); (case aF => exact fun j hj => Nat.le_trans HB.out.size hj); (case aL => omega); intro v9 w9 ho9 hb9 hg9 hat9; refine hK _ _ ?_))
            go_ret
            rw [HD2.out]
            exact ⟨_, rfl, ho9, hb9⟩
          · have hd2 : decide ((m : Int) < (b.length : Int)) = false := by simp; omega
            have HD2 := Lib.hid (show Pl.dump b = M by rw [HD.out, hq, HMM.out, if_pos (by have := hk.out.1; omega), List.append_nil])
            clear hq
            go_wp2_with fail
            go_ret
            rw [HD2.out]
            exact ⟨_, rfl, HO.out, HB.out⟩
    · have hs : (!(b.take 8 == [99, 114, 101, 101, 108, 100, 109, 112])) = true := by simpa [Pl.dumpHead] using hh
      have HD := Lib.hid (show Pl.dump b = [(false, [], [], 100, 0)] by unfold Pl.dump; rw [if_neg hh])
      clear hh
      go_wp2_with fail
      go_ret
      rw [HD.out]
      exact ⟨_, rfl, Kd.R_N (item_oneR (Kd.R_nil _ _ _ _ _) (Kd.R_nil _ _ _ _ _) (Nat.le_refl _)), below_alloc (Below.refl _ _) _⟩
end Go.Proofs.Ytchbfeejpdfmhaa
