import Derived.Test.YtfppbkpdpapemaaDoorCfgKit
import Derived.Test.YtfppbkpdpapemaaDoorRight
import Derived.Below
/-! creelref11.Right. -/
set_option linter.unusedSimpArgs false
set_option linter.unusedVariables false
namespace Go.Proofs.YtfppbkpdpapemaaDoor
open Go.RowKit Go.Proofs.YtfppbkpdpapemaaDoorW.PrintWords Go.Proofs.YtfppbkpdpapemaaDoorW.PrintLast Go.Proofs.YtfppbkpdpapemaaDoorW.PrintMore

namespace Pl
theorem u8_int (x y : UInt8) : (x = y) ↔ ((x.toNat : Int) = (y.toNat : Int)) := by
  constructor
  · rintro rfl; rfl
  · intro h
    exact UInt8.toNat_inj.1 (by omega)
theorem right_iff (c : Cfg) : right c = decide ((((c.fmt.toNat : Int) = 1 ∨ (c.fmt.toNat : Int) = 2) ∨ ((c.fmt.toNat : Int) = 3 ∧ c.num = true)) ∧ 2 ≤ c.bud ∧ c.bud ≤ 4096 ∧ 2 ≤ c.fan ∧ c.fan ≤ 16 ∧ c.fan ≤ c.bud ∧ 1 ≤ c.sha ∧ c.sha ≤ 16) := by
  rw [Bool.eq_iff_iff]
  simp only [right, fmtOk, within, Bool.and_eq_true, Bool.or_eq_true, decide_eq_true_eq, beq_iff_eq]
  rw [u8_int c.fmt 1, u8_int c.fmt 2, u8_int c.fmt 3]
  rw [show (((1 : UInt8).toNat : Nat) : Int) = 1 from rfl, show (((2 : UInt8).toNat : Nat) : Int) = 2 from rfl, show (((3 : UInt8).toNat : Nat) : Int) = 3 from rfl]
  constructor
  · rintro ⟨⟨⟨h1, h2⟩, h3⟩, h4⟩
    exact ⟨h1, by omega, by omega, by omega, by omega, by omega, by omega, by omega⟩
  · rintro ⟨h1, h2, h3, h4, h5, h6, h7, h8⟩
    exact ⟨⟨⟨h1, by omega⟩, by omega⟩, by omega⟩
end Pl

set_option maxRecDepth 100000 in
set_option maxHeartbeats 4000000 in
theorem rright11_any (c : Pl.Cfg) (w : World) : Calls Tryd.prog 32 #[cfgV c] w fun e w' => e = .returned (.bool (Pl.right c)) ∧ Below w.heap.size w w' := by
  go_enter Tryd.func32, Tryd.ntmps32
  by_cases f1 : (c.fmt.toNat : Int) = 1
  · have g1 : ((c.fmt.toNat : Int) == 1) = true := by simpa using f1
    have HF := Lib.hid (.inl (.inl f1) : ((c.fmt.toNat : Int) = 1 ∨ (c.fmt.toNat : Int) = 2) ∨ ((c.fmt.toNat : Int) = 3 ∧ c.num = true))
    clear f1
    by_cases b1 : 2 ≤ c.bud
    · by_cases b2 : c.bud ≤ 4096
      · by_cases b3 : 2 ≤ c.fan
        · by_cases b4 : c.fan ≤ 16
          · by_cases b5 : c.fan ≤ c.bud
            · by_cases b6 : 1 ≤ c.sha
              · by_cases b7 : c.sha ≤ 16
                · have hR := Lib.hid (show Pl.right c = true by rw [Pl.right_iff]; exact decide_eq_true ⟨HF.out, b1, b2, b3, b4, b5, b6, b7⟩)
                  go_wp2_with fail
                  go_ret
                  exact ⟨by rw [hR.out]; rfl, below_alloc (Below.refl _ _) _⟩
                · have b7d : decide (c.sha ≤ 16) = false := decide_eq_false b7
                  have hR := Lib.hid (show Pl.right c = false by rw [Pl.right_iff]; exact decide_eq_false (fun hh => b7 hh.2.2.2.2.2.2.2))
                  go_wp2_with fail
                  go_ret
                  exact ⟨by rw [hR.out]; rfl, below_alloc (Below.refl _ _) _⟩
              · have b6d : decide (1 ≤ c.sha) = false := decide_eq_false b6
                have hR := Lib.hid (show Pl.right c = false by rw [Pl.right_iff]; exact decide_eq_false (fun hh => b6 hh.2.2.2.2.2.2.1))
                go_wp2_with fail
                go_ret
                exact ⟨by rw [hR.out]; rfl, below_alloc (Below.refl _ _) _⟩
            · have b5d : decide (c.fan ≤ c.bud) = false := decide_eq_false b5
              have hR := Lib.hid (show Pl.right c = false by rw [Pl.right_iff]; exact decide_eq_false (fun hh => b5 hh.2.2.2.2.2.1))
              go_wp2_with fail
              go_ret
              exact ⟨by rw [hR.out]; rfl, below_alloc (Below.refl _ _) _⟩
          · have b4d : decide (c.fan ≤ 16) = false := decide_eq_false b4
            have hR := Lib.hid (show Pl.right c = false by rw [Pl.right_iff]; exact decide_eq_false (fun hh => b4 hh.2.2.2.2.1))
            go_wp2_with fail
            go_ret
            exact ⟨by rw [hR.out]; rfl, below_alloc (Below.refl _ _) _⟩
        · have b3d : decide (2 ≤ c.fan) = false := decide_eq_false b3
          have hR := Lib.hid (show Pl.right c = false by rw [Pl.right_iff]; exact decide_eq_false (fun hh => b3 hh.2.2.2.1))
          go_wp2_with fail
          go_ret
          exact ⟨by rw [hR.out]; rfl, below_alloc (Below.refl _ _) _⟩
      · have b2d : decide (c.bud ≤ 4096) = false := decide_eq_false b2
        have hR := Lib.hid (show Pl.right c = false by rw [Pl.right_iff]; exact decide_eq_false (fun hh => b2 hh.2.2.1))
        go_wp2_with fail
        go_ret
        exact ⟨by rw [hR.out]; rfl, below_alloc (Below.refl _ _) _⟩
    · have b1d : decide (2 ≤ c.bud) = false := decide_eq_false b1
      have hR := Lib.hid (show Pl.right c = false by rw [Pl.right_iff]; exact decide_eq_false (fun hh => b1 hh.2.1))
      go_wp2_with fail
      go_ret
      exact ⟨by rw [hR.out]; rfl, below_alloc (Below.refl _ _) _⟩
  · have g1 : ((c.fmt.toNat : Int) == 1) = false := by simpa using f1
    by_cases f2 : (c.fmt.toNat : Int) = 2
    · have g2 : ((c.fmt.toNat : Int) == 2) = true := by simpa using f2
      have HF := Lib.hid (.inl (.inr f2) : ((c.fmt.toNat : Int) = 1 ∨ (c.fmt.toNat : Int) = 2) ∨ ((c.fmt.toNat : Int) = 3 ∧ c.num = true))
      clear f1 f2
      by_cases b1 : 2 ≤ c.bud
      · by_cases b2 : c.bud ≤ 4096
        · by_cases b3 : 2 ≤ c.fan
          · by_cases b4 : c.fan ≤ 16
            · by_cases b5 : c.fan ≤ c.bud
              · by_cases b6 : 1 ≤ c.sha
                · by_cases b7 : c.sha ≤ 16
                  · have hR := Lib.hid (show Pl.right c = true by rw [Pl.right_iff]; exact decide_eq_true ⟨HF.out, b1, b2, b3, b4, b5, b6, b7⟩)
                    go_wp2_with fail
                    go_ret
                    exact ⟨by rw [hR.out]; rfl, below_alloc (Below.refl _ _) _⟩
                  · have b7d : decide (c.sha ≤ 16) = false := decide_eq_false b7
                    have hR := Lib.hid (show Pl.right c = false by rw [Pl.right_iff]; exact decide_eq_false (fun hh => b7 hh.2.2.2.2.2.2.2))
                    go_wp2_with fail
                    go_ret
                    exact ⟨by rw [hR.out]; rfl, below_alloc (Below.refl _ _) _⟩
                · have b6d : decide (1 ≤ c.sha) = false := decide_eq_false b6
                  have hR := Lib.hid (show Pl.right c = false by rw [Pl.right_iff]; exact decide_eq_false (fun hh => b6 hh.2.2.2.2.2.2.1))
                  go_wp2_with fail
                  go_ret
                  exact ⟨by rw [hR.out]; rfl, below_alloc (Below.refl _ _) _⟩
              · have b5d : decide (c.fan ≤ c.bud) = false := decide_eq_false b5
                have hR := Lib.hid (show Pl.right c = false by rw [Pl.right_iff]; exact decide_eq_false (fun hh => b5 hh.2.2.2.2.2.1))
                go_wp2_with fail
                go_ret
                exact ⟨by rw [hR.out]; rfl, below_alloc (Below.refl _ _) _⟩
            · have b4d : decide (c.fan ≤ 16) = false := decide_eq_false b4
              have hR := Lib.hid (show Pl.right c = false by rw [Pl.right_iff]; exact decide_eq_false (fun hh => b4 hh.2.2.2.2.1))
              go_wp2_with fail
              go_ret
              exact ⟨by rw [hR.out]; rfl, below_alloc (Below.refl _ _) _⟩
          · have b3d : decide (2 ≤ c.fan) = false := decide_eq_false b3
            have hR := Lib.hid (show Pl.right c = false by rw [Pl.right_iff]; exact decide_eq_false (fun hh => b3 hh.2.2.2.1))
            go_wp2_with fail
            go_ret
            exact ⟨by rw [hR.out]; rfl, below_alloc (Below.refl _ _) _⟩
        · have b2d : decide (c.bud ≤ 4096) = false := decide_eq_false b2
          have hR := Lib.hid (show Pl.right c = false by rw [Pl.right_iff]; exact decide_eq_false (fun hh => b2 hh.2.2.1))
          go_wp2_with fail
          go_ret
          exact ⟨by rw [hR.out]; rfl, below_alloc (Below.refl _ _) _⟩
      · have b1d : decide (2 ≤ c.bud) = false := decide_eq_false b1
        have hR := Lib.hid (show Pl.right c = false by rw [Pl.right_iff]; exact decide_eq_false (fun hh => b1 hh.2.1))
        go_wp2_with fail
        go_ret
        exact ⟨by rw [hR.out]; rfl, below_alloc (Below.refl _ _) _⟩
    · have g2 : ((c.fmt.toNat : Int) == 2) = false := by simpa using f2
      by_cases f3 : (c.fmt.toNat : Int) = 3
      · have g3 : ((c.fmt.toNat : Int) == 3) = true := by simpa using f3
        rcases hn : c.num with _ | _
        · have HN := Lib.hid (fun hh => hh.elim (fun h => h.elim f1 f2) (fun h => by rw [hn] at h; cases h.2) : ¬ (((c.fmt.toNat : Int) = 1 ∨ (c.fmt.toNat : Int) = 2) ∨ ((c.fmt.toNat : Int) = 3 ∧ c.num = true)))
          clear f1 f2 f3
          have hR := Lib.hid (show Pl.right c = false by rw [Pl.right_iff]; exact decide_eq_false (fun hh => HN.out hh.1))
          go_wp2_with fail
          go_ret
          exact ⟨by rw [hR.out]; rfl, below_alloc (Below.refl _ _) _⟩
        · have HF := Lib.hid (.inr ⟨f3, hn⟩ : ((c.fmt.toNat : Int) = 1 ∨ (c.fmt.toNat : Int) = 2) ∨ ((c.fmt.toNat : Int) = 3 ∧ c.num = true))
          clear f1 f2 f3
          by_cases b1 : 2 ≤ c.bud
          · by_cases b2 : c.bud ≤ 4096
            · by_cases b3 : 2 ≤ c.fan
              · by_cases b4 : c.fan ≤ 16
                · by_cases b5 : c.fan ≤ c.bud
                  · by_cases b6 : 1 ≤ c.sha
                    · by_cases b7 : c.sha ≤ 16
                      · have hR := Lib.hid (show Pl.right c = true by rw [Pl.right_iff]; exact decide_eq_true ⟨HF.out, b1, b2, b3, b4, b5, b6, b7⟩)
                        go_wp2_with fail
                        go_ret
                        exact ⟨by rw [hR.out]; rfl, below_alloc (Below.refl _ _) _⟩
                      · have b7d : decide (c.sha ≤ 16) = false := decide_eq_false b7
                        have hR := Lib.hid (show Pl.right c = false by rw [Pl.right_iff]; exact decide_eq_false (fun hh => b7 hh.2.2.2.2.2.2.2))
                        go_wp2_with fail
                        go_ret
                        exact ⟨by rw [hR.out]; rfl, below_alloc (Below.refl _ _) _⟩
                    · have b6d : decide (1 ≤ c.sha) = false := decide_eq_false b6
                      have hR := Lib.hid (show Pl.right c = false by rw [Pl.right_iff]; exact decide_eq_false (fun hh => b6 hh.2.2.2.2.2.2.1))
                      go_wp2_with fail
                      go_ret
                      exact ⟨by rw [hR.out]; rfl, below_alloc (Below.refl _ _) _⟩
                  · have b5d : decide (c.fan ≤ c.bud) = false := decide_eq_false b5
                    have hR := Lib.hid (show Pl.right c = false by rw [Pl.right_iff]; exact decide_eq_false (fun hh => b5 hh.2.2.2.2.2.1))
                    go_wp2_with fail
                    go_ret
                    exact ⟨by rw [hR.out]; rfl, below_alloc (Below.refl _ _) _⟩
                · have b4d : decide (c.fan ≤ 16) = false := decide_eq_false b4
                  have hR := Lib.hid (show Pl.right c = false by rw [Pl.right_iff]; exact decide_eq_false (fun hh => b4 hh.2.2.2.2.1))
                  go_wp2_with fail
                  go_ret
                  exact ⟨by rw [hR.out]; rfl, below_alloc (Below.refl _ _) _⟩
              · have b3d : decide (2 ≤ c.fan) = false := decide_eq_false b3
                have hR := Lib.hid (show Pl.right c = false by rw [Pl.right_iff]; exact decide_eq_false (fun hh => b3 hh.2.2.2.1))
                go_wp2_with fail
                go_ret
                exact ⟨by rw [hR.out]; rfl, below_alloc (Below.refl _ _) _⟩
            · have b2d : decide (c.bud ≤ 4096) = false := decide_eq_false b2
              have hR := Lib.hid (show Pl.right c = false by rw [Pl.right_iff]; exact decide_eq_false (fun hh => b2 hh.2.2.1))
              go_wp2_with fail
              go_ret
              exact ⟨by rw [hR.out]; rfl, below_alloc (Below.refl _ _) _⟩
          · have b1d : decide (2 ≤ c.bud) = false := decide_eq_false b1
            have hR := Lib.hid (show Pl.right c = false by rw [Pl.right_iff]; exact decide_eq_false (fun hh => b1 hh.2.1))
            go_wp2_with fail
            go_ret
            exact ⟨by rw [hR.out]; rfl, below_alloc (Below.refl _ _) _⟩
      · have g3 : ((c.fmt.toNat : Int) == 3) = false := by simpa using f3
        have HN := Lib.hid (fun hh => hh.elim (fun h => h.elim f1 f2) (fun h => f3 h.1) : ¬ (((c.fmt.toNat : Int) = 1 ∨ (c.fmt.toNat : Int) = 2) ∨ ((c.fmt.toNat : Int) = 3 ∧ c.num = true)))
        clear f1 f2 f3
        have hR := Lib.hid (show Pl.right c = false by rw [Pl.right_iff]; exact decide_eq_false (fun hh => HN.out hh.1))
        go_wp2_with fail
        go_ret
        exact ⟨by rw [hR.out]; rfl, below_alloc (Below.refl _ _) _⟩
end Go.Proofs.YtfppbkpdpapemaaDoor
