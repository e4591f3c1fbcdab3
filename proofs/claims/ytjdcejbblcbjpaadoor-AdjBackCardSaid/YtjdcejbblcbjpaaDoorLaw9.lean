import Derived.Test.YtjdcejbblcbjpaaDoorAdj
import Derived.Test.YtjdcejbblcbjpaaDoorSameAll8
/-! creellaw09.few, creellaw09.shown. -/
set_option linter.unusedSimpArgs false
set_option linter.unusedVariables false
namespace Go.Proofs.YtjdcejbblcbjpaaDoor
open Go.RowKit Go.Proofs.YtjdcejbblcbjpaaDoorW.PrintWords Go.Proofs.YtjdcejbblcbjpaaDoorW.PrintLast Go.Proofs.YtjdcejbblcbjpaaDoorW.PrintMore
attribute [local go_sem] max2_int min2_int max_two min_two

theorem few09_any (v : Value) (l : List UInt8) (w : World) (hv : Rd kb w v l) : Calls Tryd.prog 6 #[v] w fun e w' => ∃ v', e = .returned v' ∧ Rd kb w v' (l.take 300) ∧ w = w' := by
  obtain ⟨A, c, rfl, hc, hF⟩ := hv
  obtain ⟨hcut, hV⟩ := byte_to hF hc (min l.length 300) (by omega)
  have hm := Kd.F_max hF
  have HV := Lib.hid hV
  have e1 : l.take (min l.length 300) = l.take 300 := by
    rcases Nat.le_total l.length 300 with h | h
    · rw [Nat.min_eq_left h, List.take_of_length_le (Nat.le_refl _), List.take_of_length_le h]
    · rw [Nat.min_eq_right h]
  have HE := Lib.hid e1
  clear hV hF e1
  by_cases h : l.length ≤ 300
  · replace hcut := hcut .i64 (l.length : Int) (by omega)
    have h2 : ¬ (300 : Int) < (l.length : Int) := by omega
    go_enter Tryd.func6, Tryd.ntmps6
    go_wp2_with fail
    go_ret
    exact ⟨_, rfl, by have := HV.out; rw [HE.out, Nat.min_eq_left h] at this; exact this, rfl⟩
  · replace hcut := hcut .i64 (300 : Int) (by omega)
    have h2 : (300 : Int) < (l.length : Int) := by omega
    go_enter Tryd.func6, Tryd.ntmps6
    go_wp2_with fail
    go_ret
    exact ⟨_, rfl, by have := HV.out; rw [HE.out] at this; rw [Nat.min_eq_right (by omega)] at this ⊢; exact this, rfl⟩


theorem adjEx1 : Pl.adj 0 [97, 32, 98, 32, 99] false = [(true, [97], [98], 0, 0), (true, [97], [99], 0, 0)] := by
  have h : Pl.words 0 [97, 32, 98, 32, 99] = [(0, [97]), (2, [98]), (4, [99])] := by
    simp [Pl.words, Pl.wordsFrom, Pl.tok, Pl.isBl]
  unfold Pl.adj
  rw [h]
  rfl
theorem adjEx2 : Pl.adj 0 [97] false = [(false, [97], [], 0, 0)] := by
  have h : Pl.words 0 [97] = [(0, [97])] := by
    simp [Pl.words, Pl.wordsFrom, Pl.tok, Pl.isBl]
  unfold Pl.adj
  rw [h]
  rfl

/-- Two items in a block of their own. -/
theorem items_two {w : World} {va vb vc vd : Value} {t1 t2 : Bool} {a b c d : List UInt8} {e1 f1 e2 f2 : Int} (ha : Rd kb w va a) (hb : Rd kb w vb b) (hc : Rd kb w vc c) (hd : Rd kb w vd d) :
    Rd kItem (w.alloc (.cells #[.bool t1, va, vb, .int .i64 e1, .int .i64 f1, .bool t2, vc, vd, .int .i64 e2, .int .i64 f2] 36)) (.slice (some ⟨w.heap.size, 0, none⟩) 2 2) [(t1, a, b, e1, f1), (t2, c, d, e2, f2)] := by
  have hb2 := below_alloc (Below.refl w.heap.size w) (.cells #[.bool t1, va, vb, .int .i64 e1, .int .i64 f1, .bool t2, vc, vd, .int .i64 e2, .int .i64 f2] 36)
  refine krow_rd (xs := [(t1, a, b, e1, f1), (t2, c, d, e2, f2)]) (heap_alloc_new w _) (fun j x hx => ?_) trivial (by simp) (by simp)
  rcases j with _ | _ | j
  · simp only [List.getElem?_cons_zero, Option.some.injEq] at hx
    subst hx
    refine ⟨_, item_FK (Rd.below ha hb2) (Rd.below hb hb2), fun i u hu => ?_⟩
    rcases i with _ | _ | _ | _ | _ | i <;> first | exact hu | simp at hu
  · simp only [List.getElem?_cons_succ, List.getElem?_cons_zero, Option.some.injEq] at hx
    subst hx
    refine ⟨_, item_FK (Rd.below hc hb2) (Rd.below hd hb2), fun i u hu => ?_⟩
    rcases i with _ | _ | _ | _ | _ | i <;> first | exact hu | simp at hu
  · simp at hx
/-- A frozen literal of bytes, seen later. -/
theorem lit_later {w w1 w2 : World} {C : Array Value} {t : TypeId} {fz : Nat × Nat} {xs : List UInt8} {c : Nat} (h : w.alloc (.cells C t fz) = w1) (hC : C.toList = xs.map fun c => Value.int .u8 (c.toNat : Int)) (hc : xs.length ≤ c) (hm : xs.length ≤ 1099511627776) (hb : Below w1.heap.size w1 w2) : Rd kb w2 (.slice (some ⟨w.heap.size, 0, none⟩) xs.length c) xs := by
  subst h
  exact Rd.below (Kd.V_mono (lit_rd w c C t fz xs hC hc hm) (fun _ _ => trivial)) hb

set_option maxRecDepth 100000 in
set_option maxHeartbeats 1000000 in
theorem shown09_any (w : World) : Calls Tryd.prog 9 #[] w fun e w' => e = .returned (.bool true) ∧ Below w.heap.size w w' := by
  have kc := fun (w : World) (C : Array Value) (n c : Nat) => Lib.run_convert_bytes_const (P := Tryd.prog) w 22 5 C n c Tryd.underlying22 Tryd.underlying5
  have kc2 : ∀ (w : World) (o : Obj) (C : Array Value) (n c : Nat), (convert 22 22 (.slice (some ⟨w.heap.size + 1, 0, none⟩) n c)).run Tryd.prog ((w.alloc o).alloc (.cells C 5)) = .ok (.slice (some ⟨w.heap.size + 1, 0, none⟩) n c) ((w.alloc o).alloc (.cells C 5 (C.size, C.size + 1))) := fun w o C n c => by
    have := kc (w.alloc o) C n c
    rwa [World.size_alloc] at this
  have kc3 : ∀ (w : World) (o o2 : Obj) (C : Array Value) (n c : Nat), (convert 22 22 (.slice (some ⟨w.heap.size + 2, 0, none⟩) n c)).run Tryd.prog (((w.alloc o).alloc o2).alloc (.cells C 5)) = .ok (.slice (some ⟨w.heap.size + 2, 0, none⟩) n c) (((w.alloc o).alloc o2).alloc (.cells C 5 (C.size, C.size + 1))) := fun w o o2 C n c => by
    have := kc2 (w.alloc o) o2 C n c
    rwa [World.size_alloc] at this
  have kc4 : ∀ (w : World) (o o2 o3 : Obj) (C : Array Value) (n c : Nat), (convert 22 22 (.slice (some ⟨w.heap.size + 3, 0, none⟩) n c)).run Tryd.prog ((((w.alloc o).alloc o2).alloc o3).alloc (.cells C 5)) = .ok (.slice (some ⟨w.heap.size + 3, 0, none⟩) n c) ((((w.alloc o).alloc o2).alloc o3).alloc (.cells C 5 (C.size, C.size + 1))) := fun w o o2 o3 C n c => by
    have := kc3 (w.alloc o) o2 o3 C n c
    rwa [World.size_alloc] at this
  go_enter Tryd.func9, Tryd.ntmps9
  go_wp2_with fail
  refine calls_at fun W1 h1 => ?_
  have hb1 : Below w.heap.size w W1 := by rw [← h1]; exact below_alloc (below_alloc (below_alloc (below_alloc (Below.refl _ _) _) _) _) _
  have Va : Rd kb W1 (.slice (some ⟨w.heap.size, 0, none⟩) 1 1) [97] := by
    rw [← h1]
    simpa [World.size_alloc] using lit_later (w := w) (fz := (1, 2)) (C := #[.int .u8 97]) (xs := [97]) (c := 1) rfl rfl (by simp) (by simp) (below_alloc (below_alloc (below_alloc (Below.refl _ _) _) _) _)
  have Vb : Rd kb W1 (.slice (some ⟨w.heap.size + 1, 0, none⟩) 1 1) [98] := by
    rw [← h1]
    simpa [World.size_alloc] using lit_later (w := w.alloc (.cells #[.int .u8 97] 5 (1, 2))) (fz := (1, 2)) (C := #[.int .u8 98]) (xs := [98]) (c := 1) rfl rfl (by simp) (by simp) (below_alloc (below_alloc (Below.refl _ _) _) _)
  have Vc : Rd kb W1 (.slice (some ⟨w.heap.size + 2, 0, none⟩) 1 1) [99] := by
    rw [← h1]
    simpa [World.size_alloc] using lit_later (w := (w.alloc (.cells #[.int .u8 97] 5 (1, 2))).alloc (.cells #[.int .u8 98] 5 (1, 2))) (fz := (1, 2)) (C := #[.int .u8 99]) (xs := [99]) (c := 1) rfl rfl (by simp) (by simp) (below_alloc (Below.refl _ _) _)
  have Vd : Rd kb W1 (.slice (some ⟨w.heap.size + 3, 0, none⟩) 5 5) [97, 32, 98, 32, 99] := by
    rw [← h1]
    simpa [World.size_alloc] using lit_later (w := ((w.alloc (.cells #[.int .u8 97] 5 (1, 2))).alloc (.cells #[.int .u8 98] 5 (1, 2))).alloc (.cells #[.int .u8 99] 5 (1, 2))) (fz := (5, 6)) (C := #[.int .u8 97, .int .u8 32, .int .u8 98, .int .u8 32, .int .u8 99]) (xs := [97, 32, 98, 32, 99]) (c := 5) rfl rfl (by simp) (by simp) (Below.refl _ _)
  clear h1
  refine (aparse_any _ 0 [97, 32, 98, 32, 99] false _ Vd (by omega) (by omega) (by simp)).mono ?_
  rw [adjEx1]
  rintro e W2 ⟨v2, rfl, hr2, hb2⟩
  obtain ⟨A2, c2, hv2⟩ := Kd.V_slice hr2
  subst hv2
  have HA := Lib.hid (Rd.below Va hb2)
  have HBv := Lib.hid (Rd.below Vb hb2)
  have HC := Lib.hid (Rd.below Vc hb2)
  have HR2 := Lib.hid hr2
  have HB2 := Lib.hid (bthen hb1 hb2)
  clear Va Vb Vc Vd hb1 hb2 hr2 kc2 kc3 kc4 kc
  simp only [List.length_cons, List.length_nil, Nat.reduceAdd]
  go_wp2_with fail
  refine calls_at fun W3 h3 => ?_
  have hb3 : Below W2.heap.size W2 W3 := by rw [← h3]; exact below_alloc (Below.refl _ _) _
  have hl3 : Rd kItem W3 (.slice (some ⟨W2.heap.size, 0, none⟩) 2 2) [(true, [97], [98], 0, 0), (true, [97], [99], 0, 0)] := by
    rw [← h3]
    exact items_two HA.out HBv.out HA.out HC.out
  clear h3
  refine (sameAll_any _ _ _ _ (Rd.below HR2.out hb3) hl3).mono ?_
  rintro e W4 ⟨rfl, hb4⟩
  have HB4 := Lib.hid (bthen HB2.out (bthen hb3 hb4))
  have HA4 := Lib.hid (Rd.below HA.out (bthen hb3 hb4))
  clear hb3 hb4 hl3 HA HBv HC HR2 HB2
  go_wp2_with fail
  refine (aparse_any _ 0 [97] false _ HA4.out (by omega) (by omega) (by simp)).mono ?_
  rw [adjEx2]
  rintro e W5 ⟨v5, rfl, hr5, hb5⟩
  obtain ⟨A5, c5, hv5⟩ := Kd.V_slice hr5
  subst hv5
  have HR5 := Lib.hid hr5
  have HA5 := Lib.hid (Rd.below HA4.out hb5)
  have HB5 := Lib.hid (bthen HB4.out hb5)
  clear hr5 hb5 HA4 HB4
  simp only [List.length_cons, List.length_nil, Nat.reduceAdd]
  go_wp2_with fail
  refine calls_at fun W6 h6 => ?_
  have hb6 : Below W5.heap.size W5 W6 := by rw [← h6]; exact below_alloc (Below.refl _ _) _
  have hl6 : Rd kItem W6 (.slice (some ⟨W5.heap.size, 0, none⟩) 1 1) [(false, [97], [], 0, 0)] := by
    rw [← h6]
    exact item_one HA5.out (Rd.nil _ _)
  clear h6
  refine (sameAll_any _ _ _ _ (Rd.below HR5.out hb6) hl6).mono ?_
  rintro e W7 ⟨rfl, hb7⟩
  have HB7 := Lib.hid (bthen HB5.out (bthen hb6 hb7))
  clear hb6 hb7 hl6 HR5 HA5 HB5
  go_wp2_with fail
  go_ret
  exact ⟨rfl, HB7.out⟩
end Go.Proofs.YtjdcejbblcbjpaaDoor
