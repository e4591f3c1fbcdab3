import Derived.Test.YtjogbgiknnfinaaListFn
import Derived.Test.YtjogbgiknnfinaaSameLine
import Derived.Test.YtjogbgiknnfinaaWords
import Derived.Test.YtjogbgiknnfinaaItemKit
/-! creellaw07.few, creellaw07.shown. -/
set_option linter.unusedSimpArgs false
set_option linter.unusedVariables false
namespace Go.Proofs.Ytjogbgiknnfinaa
open Go.RowKit Go.Proofs.YtjogbgiknnfinaaW.PrintWords Go.Proofs.YtjogbgiknnfinaaW.PrintLast Go.Proofs.YtjogbgiknnfinaaW.PrintMore
attribute [local go_sem] max2_int min2_int max_two min_two

theorem few07_any (v : Value) (l : List UInt8) (w : World) (hv : Rd kb w v l) : Calls Try.prog 21 #[v] w fun e w' => ∃ v', e = .returned v' ∧ Rd kb w v' (l.take 1000) ∧ w = w' := by
  obtain ⟨A, c, rfl, hc, hF⟩ := hv
  obtain ⟨hcut, hV⟩ := byte_to hF hc (min l.length 1000) (by omega)
  have hm := Kd.F_max hF
  have HV := Lib.hid hV
  have e1 : l.take (min l.length 1000) = l.take 1000 := by
    rcases Nat.le_total l.length 1000 with h | h
    · rw [Nat.min_eq_left h, List.take_of_length_le (Nat.le_refl _), List.take_of_length_le h]
    · rw [Nat.min_eq_right h]
  have HE := Lib.hid e1
  clear hV hF e1
  by_cases h : l.length ≤ 1000
  · replace hcut := hcut .i64 (l.length : Int) (by omega)
    have h2 : ¬ (1000 : Int) < (l.length : Int) := by omega
    go_enter Try.func21, Try.ntmps21
    go_wp2_with fail
    go_ret
    exact ⟨_, rfl, by have := HV.out; rw [HE.out, Nat.min_eq_left h] at this; exact this, rfl⟩
  · replace hcut := hcut .i64 (1000 : Int) (by omega)
    have h2 : (1000 : Int) < (l.length : Int) := by omega
    go_enter Try.func21, Try.ntmps21
    go_wp2_with fail
    go_ret
    exact ⟨_, rfl, by have := HV.out; rw [HE.out] at this; rw [Nat.min_eq_right (by omega)] at this ⊢; exact this, rfl⟩

/-- A frozen literal of bytes, seen later. -/
theorem lit_at {w w1 w2 : World} {C : Array Value} {t : TypeId} {fz : Nat × Nat} {xs : List UInt8} {c : Nat} (h : w.alloc (.cells C t fz) = w1) (hC : C.toList = xs.map fun c => Value.int .u8 (c.toNat : Int)) (hc : xs.length ≤ c) (hm : xs.length ≤ 1099511627776) (hb : Below w1.heap.size w1 w2) : Rd kb w2 (.slice (some ⟨w.heap.size, 0, none⟩) xs.length c) xs := by
  subst h
  exact Rd.below (Kd.V_mono (lit_rd w c C t fz xs hC hc hm) (fun _ _ => trivial)) hb
/-- Lines in a block of their own. -/
theorem lines_rd {w : World} {C : Array Value} {c : Nat} {xs : List (Int × List UInt8)} (hC : ∀ j x, xs[j]? = some x → ∃ v, Rd kb w v x.2 ∧ C[j * 2]? = some (.int .i64 x.1) ∧ C[j * 2 + 1]? = some v) (hc : xs.length ≤ c) (hm : xs.length ≤ 1099511627776) :
    Rd kLine (w.alloc (.cells C 26)) (.slice (some ⟨w.heap.size, 0, none⟩) xs.length c) xs := by
  have hb2 := below_alloc (Below.refl w.heap.size w) (.cells C 26)
  refine krow_rd (xs := xs) (heap_alloc_new w _) (fun j x hx => ?_) trivial hc hm
  obtain ⟨v, h1, h2, h3⟩ := hC j x hx
  refine ⟨_, line_FK (Rd.below h1 hb2), fun i u hu => ?_⟩
  rcases i with _ | _ | i
  · simp only [List.getElem?_cons_zero, Option.some.injEq] at hu
    subst hu
    exact h2
  · simp only [List.getElem?_cons_succ, List.getElem?_cons_zero, Option.some.injEq] at hu
    subst hu
    exact h3
  · simp at hu

theorem lineEx1 : Pl.lines [97, 13, 10, 10, 32, 98] = [(0, [97]), (3, []), (4, [32, 98])] := by
  simp [Pl.lines, Pl.linesFrom, Pl.cutLen, Pl.trimB]
theorem lineEx2 : Pl.words 4 [32, 98] = [(5, [98])] := by
  simp [Pl.words, Pl.wordsFrom, Pl.tok, Pl.isBl]

set_option maxRecDepth 100000 in
set_option maxHeartbeats 1000000 in
theorem shown07_any (w : World) : Calls Try.prog 20 #[] w fun e w' => e = .returned (.bool true) ∧ Below w.heap.size w w' := by
  have kc := fun (w : World) (C : Array Value) (n c : Nat) => Lib.run_convert_bytes_const (P := Try.prog) w 22 5 C n c Try.underlying22 Try.underlying5
  have kc2 : ∀ (w : World) (o : Obj) (C : Array Value) (n c : Nat), (convert 22 22 (.slice (some ⟨w.heap.size + 1, 0, none⟩) n c)).run Try.prog ((w.alloc o).alloc (.cells C 5)) = .ok (.slice (some ⟨w.heap.size + 1, 0, none⟩) n c) ((w.alloc o).alloc (.cells C 5 (C.size, C.size + 1))) := fun w o C n c => by
    have := kc (w.alloc o) C n c
    rwa [World.size_alloc] at this
  go_enter Try.func20, Try.ntmps20
  go_wp2_with fail
  refine calls_at fun W1 h1 => ?_
  have hb1 : Below w.heap.size w W1 := by rw [← h1]; exact below_alloc (Below.refl _ _) _
  have V1 := lit_at (xs := [97, 13, 10, 10, 32, 98]) (c := 6) h1 rfl (by simp) (by simp) (Below.refl _ _)
  clear h1
  refine (list_any _ [97, 13, 10, 10, 32, 98] _ V1 (by simp)).mono ?_
  rw [lineEx1]
  rintro e W2 ⟨v2, rfl, hr2, hb2⟩
  obtain ⟨g, cap, hv2, hg, hrow⟩ := line_own hr2 (by simp)
  subst hv2
  have HR2 := Lib.hid hr2.rd
  have HB2 := Lib.hid (bthen hb1 hb2)
  obtain ⟨A3, c3, hV3, x0, x1⟩ := hrow 2 _ rfl
  have HV3 := Lib.hid hV3
  clear hrow hr2 hb1 hb2 V1 hV3
  simp only [List.length_cons, List.length_nil, Nat.reduceAdd]
  go_wp2_with fail
  refine calls_at fun W3 h3 => ?_
  have ba := below_alloc (Below.refl W2.heap.size W2) (.cells #[.int .u8 97] 5 (1, 2))
  have Va : Rd kb (W2.alloc (.cells #[.int .u8 97] 5 (1, 2))) (.slice (some ⟨W2.heap.size, 0, none⟩) 1 1) [97] := lit_at (xs := [97]) (c := 1) rfl rfl (by simp) (by simp) (Below.refl _ _)
  have Vb : Rd kb ((W2.alloc (.cells #[.int .u8 97] 5 (1, 2))).alloc (.cells #[.int .u8 32, .int .u8 98] 5 (2, 3))) (.slice (some ⟨W2.heap.size + 1, 0, none⟩) 2 2) [32, 98] := by
    have := lit_at (w := W2.alloc (.cells #[.int .u8 97] 5 (1, 2))) (fz := (2, 3)) (C := #[.int .u8 32, .int .u8 98]) (t := 5) (xs := [32, 98]) (c := 2) rfl rfl (by simp) (by simp) (Below.refl _ _)
    rwa [World.size_alloc] at this
  have Va2 := Rd.below Va (below_alloc (Below.refl _ _) (.cells #[.int .u8 32, .int .u8 98] 5 (2, 3)))
  have hR3 : Rd kLine W3 (.slice (some ⟨W2.heap.size + 1 + 1, 0, none⟩) 3 3) [(0, [97]), (3, []), (4, [32, 98])] := by
    have := lines_rd (w := (W2.alloc (.cells #[.int .u8 97] 5 (1, 2))).alloc (.cells #[.int .u8 32, .int .u8 98] 5 (2, 3))) (C := #[.int .i64 0, .slice (some ⟨W2.heap.size, 0, none⟩) 1 1, .int .i64 3, .slice none 0 0, .int .i64 4, .slice (some ⟨W2.heap.size + 1, 0, none⟩) 2 2]) (c := 3) (xs := [(0, [97]), (3, []), (4, [32, 98])]) (fun j x hx => by
      rcases j with _ | _ | _ | j
      · simp only [List.getElem?_cons_zero, Option.some.injEq] at hx
        subst hx
        exact ⟨_, Va2, rfl, rfl⟩
      · simp only [List.getElem?_cons_succ, List.getElem?_cons_zero, Option.some.injEq] at hx
        subst hx
        exact ⟨_, Rd.nil _ _, rfl, rfl⟩
      · simp only [List.getElem?_cons_succ, List.getElem?_cons_zero, Option.some.injEq] at hx
        subst hx
        exact ⟨_, Vb, rfl, rfl⟩
      · simp at hx) (by simp) (by simp)
    rw [World.size_alloc, World.size_alloc] at this
    rw [← h3]
    exact this
  have hb3 : Below W2.heap.size W2 W3 := by rw [← h3]; exact below_alloc (below_alloc (below_alloc (Below.refl _ _) _) _) _
  clear h3 Va Vb Va2 ba
  refine (sameL_any _ _ _ _ (Rd.below HR2.out hb3) hR3).mono ?_
  rintro e W4 ⟨rfl, hb4⟩
  have hb24 := bthen hb3 hb4
  have HB4 := Lib.hid (bthen HB2.out hb24)
  have hlg : g < W2.heap.size := hg
  have y0 := (hb24.cell (p := ⟨g, 2 * 2, none⟩) hlg).trans x0
  have y1 := (hb24.cell (p := ⟨g, 2 * 2 + 1, none⟩) hlg).trans x1
  have HV4 := Lib.hid (Rd.below (Kd.V_mono HV3.out fun _ _ => trivial) hb24)
  simp only [Nat.reduceMul, Nat.reduceAdd, List.length_cons, List.length_nil] at y0 y1
  clear hb3 hb4 hb24 HB2 x0 x1 HV3 hR3 HR2 hlg
  go_wp2_with fail
  refine (words_any _ 4 [32, 98] _ HV4.out (by omega) (by omega) (by simp)).mono ?_
  rw [lineEx2]
  rintro e W5 ⟨v5, rfl, hr5, hb5⟩
  obtain ⟨g5, cap5, hv5, hg5, hrow5⟩ := line_own hr5 (by simp)
  subst hv5
  have HR5 := Lib.hid hr5.rd
  have HB5 := Lib.hid (bthen HB4.out hb5)
  clear hrow5 hr5 hb5 HB4 HV4 y0 y1
  simp only [List.length_cons, List.length_nil, Nat.reduceAdd]
  go_wp2_with fail
  refine calls_at fun W6 h6 => ?_
  have V6 : Rd kb (W5.alloc (.cells #[.int .u8 98] 5 (1, 2))) (.slice (some ⟨W5.heap.size, 0, none⟩) 1 1) [98] := lit_at (xs := [98]) (c := 1) rfl rfl (by simp) (by simp) (Below.refl _ _)
  have hR6 : Rd kLine W6 (.slice (some ⟨W5.heap.size + 1, 0, none⟩) 1 1) [(5, [98])] := by
    have := lines_rd (w := W5.alloc (.cells #[.int .u8 98] 5 (1, 2))) (C := #[.int .i64 5, .slice (some ⟨W5.heap.size, 0, none⟩) 1 1]) (c := 1) (xs := [(5, [98])]) (fun j x hx => by
      rcases j with _ | j
      · simp only [List.getElem?_cons_zero, Option.some.injEq] at hx
        subst hx
        exact ⟨_, V6, rfl, rfl⟩
      · simp at hx) (by simp) (by simp)
    rw [World.size_alloc] at this
    rw [← h6]
    exact this
  have hb6 : Below W5.heap.size W5 W6 := by rw [← h6]; exact below_alloc (below_alloc (Below.refl _ _) _) _
  clear h6 V6
  refine (sameL_any _ _ _ _ (Rd.below HR5.out hb6) hR6).mono ?_
  rintro e W7 ⟨rfl, hb7⟩
  have HB7 := Lib.hid (bthen HB5.out (bthen hb6 hb7))
  clear hb6 hb7 hR6 HR5 HB5
  go_wp2_with fail
  go_ret
  exact ⟨rfl, HB7.out⟩
end Go.Proofs.Ytjogbgiknnfinaa
