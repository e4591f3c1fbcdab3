import Derived.Test.YtfppbkpdpapemaaDoorLaw20
import Derived.Test.YtfppbkpdpapemaaDoorCfgEq
/-! The law SheetNotes, walked. -/
set_option linter.unusedSimpArgs false
set_option linter.unusedVariables false
namespace Go.Proofs.YtfppbkpdpapemaaDoor
open Go.RowKit Go.Proofs.YtfppbkpdpapemaaDoorW.PrintWords Go.Proofs.YtfppbkpdpapemaaDoorW.PrintLast Go.Proofs.YtfppbkpdpapemaaDoorW.PrintMore

theorem Pl.note_some {c : Pl.Cfg} {n s : Int} (h : 0 ≤ n) (hr : Pl.right c = true) : Pl.note c n s = some (Pl.noteB c n.toNat s.toNat) := by simp [Pl.note, h, hr]
theorem Pl.note_none {c : Pl.Cfg} {n s : Int} (hr : Pl.right c = false) : Pl.note c n s = none := by simp [Pl.note, hr]
/-- the cells of a Config in a block -/
abbrev cfgA (c : Pl.Cfg) : Array Value := #[.int .u8 (c.fmt.toNat : Int), .bool c.num, .bool c.skip, .bool c.both, .bool c.loops, .bool c.back, .int .i64 c.bud, .int .i64 c.fan, .int .i64 c.sha]

set_option maxRecDepth 100000 in
set_option maxHeartbeats 4000000 in
theorem sheetNotes_walk (a b : Pl.Cfg) (n m s t : Int) (w : World) (ha : CfgIn a) (hb : CfgIn b) (hn0 : 0 ≤ n) (hn1 : n ≤ 18446744073709551615) (hm0 : 0 ≤ m) (hm1 : m ≤ 18446744073709551615) (hs0 : 0 ≤ s) (hs1 : s ≤ 4294967295) (ht0 : 0 ≤ t) (ht1 : t ≤ 4294967295) :
    Calls Tryd.prog 4 #[cfgV a, cfgV b, .int .u64 n, .int .u64 m, .int .u32 s, .int .u32 t] w fun e w' => e = .returned (.bool true) ∧ Below w.heap.size w w' := by
  have HA := Lib.hid ha
  have HB := Lib.hid hb
  clear ha hb
  rcases hra : Pl.right a with _ | _
  · rcases hrb : Pl.right b with _ | _
    · have RA := Lib.hid (Pl.note_none (n := n / 2) (s := s) hra)
      have RB := Lib.hid (Pl.note_none (n := m / 2) (s := t) hrb)
      clear hra hrb
      go_enter Tryd.func4, Tryd.ntmps4
      go_wp2_with fail
      refine calls_at fun W1 hW1 => ?_
      have hb1 : Below w.heap.size w W1 := by rw [← hW1]; exact below_alloc (below_alloc (Below.refl _ _) _) _
      have K1 : Blk W1 w.heap.size (cfgA a) 23 := by rw [← hW1]; exact (Blk.new _ _ _).alloc _
      have K2 : Blk W1 (w.heap.size + 1) (cfgA b) 23 := by
        rw [← hW1]
        have := Blk.new (w.alloc (.cells (cfgA a) 23)) (cfgA b) 23
        simpa using this
      clear hW1
      refine (shown20_any W1).mono ?_
      rintro e w2 ⟨rfl, hb2⟩
      have B2 := Lib.hid (bthen hb1 hb2)
      have L1 := K1.belowW hb2
      have L2 := K2.belowW hb2
      have q0 := L1.cell.1 0
      have q1 := L1.cell.1 1
      have q2 := L1.cell.1 2
      have q3 := L1.cell.1 3
      have q4 := L1.cell.1 4
      have q5 := L1.cell.1 5
      have q6 := L1.cell.1 6
      have q7 := L1.cell.1 7
      have q8 := L1.cell.1 8
      clear K1 K2 hb1 hb2
      go_wp2_with fail
      clear q0 q1 q2 q3 q4 q5 q6 q7 q8
      have hN1 := note_any a (n / 2) s w2 HA.out (by omega) hs0 (by omega)
      rw [RA.out] at hN1
      refine hN1.mono ?_
      rintro e w3 ⟨v3, rfl, ho3, hb3⟩
      simp only [Option.isSome_some, Option.isSome_none, Option.getD_some, Option.getD_none] at ho3 ⊢
      obtain ⟨A3, c3, hv3⟩ := Kd.N_slice ho3
      subst hv3
      have O3 := Lib.hid ho3
      have B3 := Lib.hid (bthen B2.out hb3)
      have M1 := L1.belowW hb3
      have M2 := L2.belowW hb3
      clear ho3 hb3 hN1 L1 L2
      have q0 := M2.cell.1 0
      have q1 := M2.cell.1 1
      have q2 := M2.cell.1 2
      have q3 := M2.cell.1 3
      have q4 := M2.cell.1 4
      have q5 := M2.cell.1 5
      have q6 := M2.cell.1 6
      have q7 := M2.cell.1 7
      have q8 := M2.cell.1 8
      go_wp2_with fail
      clear q0 q1 q2 q3 q4 q5 q6 q7 q8
      have hN2 := note_any b (m / 2) t w3 HB.out (by omega) ht0 (by omega)
      rw [RB.out] at hN2
      refine hN2.mono ?_
      rintro e w4 ⟨v4, rfl, ho4, hb4⟩
      simp only [Option.isSome_some, Option.isSome_none, Option.getD_some, Option.getD_none] at ho4 ⊢
      obtain ⟨A4, c4, hv4⟩ := Kd.N_slice ho4
      subst hv4
      have O4 := Lib.hid ho4
      have O34 := Lib.hid (O3.out.below hb4)
      have B4 := Lib.hid (bthen B3.out hb4)
      have N1 := M1.belowW hb4
      have N2 := M2.belowW hb4
      clear ho4 hb4 hN2 M1 M2
      go_wp2_with fail
      go_ret
      exact ⟨by simp, B4.out⟩
    · have RA := Lib.hid (Pl.note_none (n := n / 2) (s := s) hra)
      obtain ⟨ly, hly⟩ : ∃ l, Pl.noteB b (m / 2).toNat t.toNat = l := ⟨_, rfl⟩
      have RB := Lib.hid ((Pl.note_some (n := m / 2) (s := t) (by omega) hrb).trans (congrArg some hly))
      clear hra hrb
      go_enter Tryd.func4, Tryd.ntmps4
      go_wp2_with fail
      refine calls_at fun W1 hW1 => ?_
      have hb1 : Below w.heap.size w W1 := by rw [← hW1]; exact below_alloc (below_alloc (Below.refl _ _) _) _
      have K1 : Blk W1 w.heap.size (cfgA a) 23 := by rw [← hW1]; exact (Blk.new _ _ _).alloc _
      have K2 : Blk W1 (w.heap.size + 1) (cfgA b) 23 := by
        rw [← hW1]
        have := Blk.new (w.alloc (.cells (cfgA a) 23)) (cfgA b) 23
        simpa using this
      clear hW1
      refine (shown20_any W1).mono ?_
      rintro e w2 ⟨rfl, hb2⟩
      have B2 := Lib.hid (bthen hb1 hb2)
      have L1 := K1.belowW hb2
      have L2 := K2.belowW hb2
      have q0 := L1.cell.1 0
      have q1 := L1.cell.1 1
      have q2 := L1.cell.1 2
      have q3 := L1.cell.1 3
      have q4 := L1.cell.1 4
      have q5 := L1.cell.1 5
      have q6 := L1.cell.1 6
      have q7 := L1.cell.1 7
      have q8 := L1.cell.1 8
      clear K1 K2 hb1 hb2
      go_wp2_with fail
      clear q0 q1 q2 q3 q4 q5 q6 q7 q8
      have hN1 := note_any a (n / 2) s w2 HA.out (by omega) hs0 (by omega)
      rw [RA.out] at hN1
      refine hN1.mono ?_
      rintro e w3 ⟨v3, rfl, ho3, hb3⟩
      simp only [Option.isSome_some, Option.isSome_none, Option.getD_some, Option.getD_none] at ho3 ⊢
      obtain ⟨A3, c3, hv3⟩ := Kd.N_slice ho3
      subst hv3
      have O3 := Lib.hid ho3
      have B3 := Lib.hid (bthen B2.out hb3)
      have M1 := L1.belowW hb3
      have M2 := L2.belowW hb3
      clear ho3 hb3 hN1 L1 L2
      have q0 := M2.cell.1 0
      have q1 := M2.cell.1 1
      have q2 := M2.cell.1 2
      have q3 := M2.cell.1 3
      have q4 := M2.cell.1 4
      have q5 := M2.cell.1 5
      have q6 := M2.cell.1 6
      have q7 := M2.cell.1 7
      have q8 := M2.cell.1 8
      go_wp2_with fail
      clear q0 q1 q2 q3 q4 q5 q6 q7 q8
      have hN2 := note_any b (m / 2) t w3 HB.out (by omega) ht0 (by omega)
      rw [RB.out] at hN2
      refine hN2.mono ?_
      rintro e w4 ⟨v4, rfl, ho4, hb4⟩
      simp only [Option.isSome_some, Option.isSome_none, Option.getD_some, Option.getD_none] at ho4 ⊢
      obtain ⟨A4, c4, hv4⟩ := Kd.N_slice ho4
      subst hv4
      have O4 := Lib.hid ho4
      have O34 := Lib.hid (O3.out.below hb4)
      have B4 := Lib.hid (bthen B3.out hb4)
      have N1 := M1.belowW hb4
      have N2 := M2.belowW hb4
      clear ho4 hb4 hN2 M1 M2
      go_wp2_with fail
      go_ret
      exact ⟨by simp, B4.out⟩
  · rcases hrb : Pl.right b with _ | _
    · obtain ⟨lx, hlx⟩ : ∃ l, Pl.noteB a (n / 2).toNat s.toNat = l := ⟨_, rfl⟩
      have RA := Lib.hid ((Pl.note_some (n := n / 2) (s := s) (by omega) hra).trans (congrArg some hlx))
      have RB := Lib.hid (Pl.note_none (n := m / 2) (s := t) hrb)
      clear hra hrb
      go_enter Tryd.func4, Tryd.ntmps4
      go_wp2_with fail
      refine calls_at fun W1 hW1 => ?_
      have hb1 : Below w.heap.size w W1 := by rw [← hW1]; exact below_alloc (below_alloc (Below.refl _ _) _) _
      have K1 : Blk W1 w.heap.size (cfgA a) 23 := by rw [← hW1]; exact (Blk.new _ _ _).alloc _
      have K2 : Blk W1 (w.heap.size + 1) (cfgA b) 23 := by
        rw [← hW1]
        have := Blk.new (w.alloc (.cells (cfgA a) 23)) (cfgA b) 23
        simpa using this
      clear hW1
      refine (shown20_any W1).mono ?_
      rintro e w2 ⟨rfl, hb2⟩
      have B2 := Lib.hid (bthen hb1 hb2)
      have L1 := K1.belowW hb2
      have L2 := K2.belowW hb2
      have q0 := L1.cell.1 0
      have q1 := L1.cell.1 1
      have q2 := L1.cell.1 2
      have q3 := L1.cell.1 3
      have q4 := L1.cell.1 4
      have q5 := L1.cell.1 5
      have q6 := L1.cell.1 6
      have q7 := L1.cell.1 7
      have q8 := L1.cell.1 8
      clear K1 K2 hb1 hb2
      go_wp2_with fail
      clear q0 q1 q2 q3 q4 q5 q6 q7 q8
      have hN1 := note_any a (n / 2) s w2 HA.out (by omega) hs0 (by omega)
      rw [RA.out] at hN1
      refine hN1.mono ?_
      rintro e w3 ⟨v3, rfl, ho3, hb3⟩
      simp only [Option.isSome_some, Option.isSome_none, Option.getD_some, Option.getD_none] at ho3 ⊢
      obtain ⟨A3, c3, hv3⟩ := Kd.N_slice ho3
      subst hv3
      have O3 := Lib.hid ho3
      have B3 := Lib.hid (bthen B2.out hb3)
      have M1 := L1.belowW hb3
      have M2 := L2.belowW hb3
      clear ho3 hb3 hN1 L1 L2
      have q0 := M2.cell.1 0
      have q1 := M2.cell.1 1
      have q2 := M2.cell.1 2
      have q3 := M2.cell.1 3
      have q4 := M2.cell.1 4
      have q5 := M2.cell.1 5
      have q6 := M2.cell.1 6
      have q7 := M2.cell.1 7
      have q8 := M2.cell.1 8
      go_wp2_with fail
      clear q0 q1 q2 q3 q4 q5 q6 q7 q8
      have hN2 := note_any b (m / 2) t w3 HB.out (by omega) ht0 (by omega)
      rw [RB.out] at hN2
      refine hN2.mono ?_
      rintro e w4 ⟨v4, rfl, ho4, hb4⟩
      simp only [Option.isSome_some, Option.isSome_none, Option.getD_some, Option.getD_none] at ho4 ⊢
      obtain ⟨A4, c4, hv4⟩ := Kd.N_slice ho4
      subst hv4
      have O4 := Lib.hid ho4
      have O34 := Lib.hid (O3.out.below hb4)
      have B4 := Lib.hid (bthen B3.out hb4)
      have N1 := M1.belowW hb4
      have N2 := M2.belowW hb4
      clear ho4 hb4 hN2 M1 M2
      go_wp2_with fail
      go_ret
      exact ⟨by simp, B4.out⟩
    · obtain ⟨lx, hlx⟩ : ∃ l, Pl.noteB a (n / 2).toNat s.toNat = l := ⟨_, rfl⟩
      have RA := Lib.hid ((Pl.note_some (n := n / 2) (s := s) (by omega) hra).trans (congrArg some hlx))
      obtain ⟨ly, hly⟩ : ∃ l, Pl.noteB b (m / 2).toNat t.toNat = l := ⟨_, rfl⟩
      have RB := Lib.hid ((Pl.note_some (n := m / 2) (s := t) (by omega) hrb).trans (congrArg some hly))
      have key : (lx = ly) ↔ (a = b ∧ n / 2 = m / 2 ∧ s = t) := by
        rw [← hlx, ← hly]
        constructor
        · intro h
          obtain ⟨h1, h2, h3⟩ := Pl.noteB_inj hra hrb (by omega) (by omega) h
          exact ⟨h1, by omega, by omega⟩
        · rintro ⟨rfl, h2, rfl⟩
          rw [h2]
      have HK := Lib.hid key
      clear key hlx hly
      clear hra hrb
      go_enter Tryd.func4, Tryd.ntmps4
      go_wp2_with fail
      refine calls_at fun W1 hW1 => ?_
      have hb1 : Below w.heap.size w W1 := by rw [← hW1]; exact below_alloc (below_alloc (Below.refl _ _) _) _
      have K1 : Blk W1 w.heap.size (cfgA a) 23 := by rw [← hW1]; exact (Blk.new _ _ _).alloc _
      have K2 : Blk W1 (w.heap.size + 1) (cfgA b) 23 := by
        rw [← hW1]
        have := Blk.new (w.alloc (.cells (cfgA a) 23)) (cfgA b) 23
        simpa using this
      clear hW1
      refine (shown20_any W1).mono ?_
      rintro e w2 ⟨rfl, hb2⟩
      have B2 := Lib.hid (bthen hb1 hb2)
      have L1 := K1.belowW hb2
      have L2 := K2.belowW hb2
      have q0 := L1.cell.1 0
      have q1 := L1.cell.1 1
      have q2 := L1.cell.1 2
      have q3 := L1.cell.1 3
      have q4 := L1.cell.1 4
      have q5 := L1.cell.1 5
      have q6 := L1.cell.1 6
      have q7 := L1.cell.1 7
      have q8 := L1.cell.1 8
      clear K1 K2 hb1 hb2
      go_wp2_with fail
      clear q0 q1 q2 q3 q4 q5 q6 q7 q8
      have hN1 := note_any a (n / 2) s w2 HA.out (by omega) hs0 (by omega)
      rw [RA.out] at hN1
      refine hN1.mono ?_
      rintro e w3 ⟨v3, rfl, ho3, hb3⟩
      simp only [Option.isSome_some, Option.isSome_none, Option.getD_some, Option.getD_none] at ho3 ⊢
      obtain ⟨A3, c3, hv3⟩ := Kd.N_slice ho3
      subst hv3
      have O3 := Lib.hid ho3
      have B3 := Lib.hid (bthen B2.out hb3)
      have M1 := L1.belowW hb3
      have M2 := L2.belowW hb3
      clear ho3 hb3 hN1 L1 L2
      have q0 := M2.cell.1 0
      have q1 := M2.cell.1 1
      have q2 := M2.cell.1 2
      have q3 := M2.cell.1 3
      have q4 := M2.cell.1 4
      have q5 := M2.cell.1 5
      have q6 := M2.cell.1 6
      have q7 := M2.cell.1 7
      have q8 := M2.cell.1 8
      go_wp2_with fail
      clear q0 q1 q2 q3 q4 q5 q6 q7 q8
      have hN2 := note_any b (m / 2) t w3 HB.out (by omega) ht0 (by omega)
      rw [RB.out] at hN2
      refine hN2.mono ?_
      rintro e w4 ⟨v4, rfl, ho4, hb4⟩
      simp only [Option.isSome_some, Option.isSome_none, Option.getD_some, Option.getD_none] at ho4 ⊢
      obtain ⟨A4, c4, hv4⟩ := Kd.N_slice ho4
      subst hv4
      have O4 := Lib.hid ho4
      have O34 := Lib.hid (O3.out.below hb4)
      have B4 := Lib.hid (bthen B3.out hb4)
      have N1 := M1.belowW hb4
      have N2 := M2.belowW hb4
      clear ho4 hb4 hN2 M1 M2
      go_wp2_with fail
      have e1 := fun (k : Nat) => byte_string (Rd.below O34.out.rd (Go.Joins.below_draws w4.heap.size w4 k))
      have e2 := fun (k : Nat) => byte_string (Rd.below O4.out.rd (Go.Joins.below_draws w4.heap.size w4 k))
      have p0 := N1.cell.1 0
      have p1 := N1.cell.1 1
      have p2 := N1.cell.1 2
      have p3 := N1.cell.1 3
      have p4 := N1.cell.1 4
      have p5 := N1.cell.1 5
      have p6 := N1.cell.1 6
      have p7 := N1.cell.1 7
      have p8 := N1.cell.1 8
      have q0 := N2.cell.1 0
      have q1 := N2.cell.1 1
      have q2 := N2.cell.1 2
      have q3 := N2.cell.1 3
      have q4 := N2.cell.1 4
      have q5 := N2.cell.1 5
      have q6 := N2.cell.1 6
      have q7 := N2.cell.1 7
      have q8 := N2.cell.1 8
      have heq := eq_cfg a b
      rw [Pl.eqCfg_iff] at heq
      clear N1 N2
      have fin : ∀ k, Below w.heap.size w (w4.drewN k) := fun k => B4.out.trans (Go.Joins.below_draws _ _ _)
      have FIN := Lib.hid fin
      clear fin
      by_cases hab : a = b
      · rw [decide_eq_true hab] at heq
        by_cases hnm : n / 2 = m / 2
        · have hn2 : ((n / 2 : Int) == m / 2) = true := by simpa using hnm
          have hl : (lx == ly) = (s == t) := by
            have h1 := HK.out
            simp only [hab, hnm, true_and] at h1
            rw [Bool.eq_iff_iff, beq_iff_eq, beq_iff_eq]
            exact h1
          have HS := Lib.hid hl
          rcases hst : (s == t) with _ | _
          · rw [hst] at hl
            clear hab hnm HS
            go_quiet (fail)
            go_wp2
            go_ret
            exact ⟨rfl, FIN.out _⟩
          · rw [hst] at hl
            clear hab hnm HS
            go_quiet (fail)
            go_wp2
            go_ret
            exact ⟨rfl, FIN.out _⟩
        · have hn2 : ((n / 2 : Int) == m / 2) = false := by simpa using hnm
          have hl : (lx == ly) = false := by simpa using fun h => hnm (HK.out.1 h).2.1
          clear hab hnm
          go_quiet (fail)
          go_wp2
          go_ret
          exact ⟨rfl, FIN.out _⟩
      · rw [decide_eq_false hab] at heq
        have hl : (lx == ly) = false := by simpa using fun h => hab (HK.out.1 h).1
        clear hab
        go_quiet (fail)
        go_wp2
        go_ret
        exact ⟨rfl, FIN.out _⟩
end Go.Proofs.YtfppbkpdpapemaaDoor
