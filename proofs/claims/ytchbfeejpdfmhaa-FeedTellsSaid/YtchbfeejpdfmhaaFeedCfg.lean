import Derived.Test.YtchbfeejpdfmhaaFeedList
/-! creellaw11.shown. -/
set_option linter.unusedSimpArgs false
set_option linter.unusedVariables false
namespace Go.Proofs.Ytchbfeejpdfmhaa
open Go.RowKit Go.Shelf Go.Proofs.YtchbfeejpdfmhaaW.PrintWords Go.Proofs.YtchbfeejpdfmhaaW.PrintLast Go.Proofs.YtchbfeejpdfmhaaW.PrintMore
attribute [local go_sem] max2_int min2_int max_two min_two

theorem linesEx : Pl.lines [97, 32, 98, 10, 99] = [(0, [97, 32, 98]), (4, [99])] := by
  simp [Pl.lines, Pl.linesFrom, Pl.cutLen, Pl.trimB]
theorem edgeEx1 : Pl.edge 0 [97, 32, 98] false = ⟨true, [97], [98], 0, 0⟩ := by
  have h : Pl.words 0 [97, 32, 98] = [(0, [97]), (2, [98])] := by
    simp [Pl.words, Pl.wordsFrom, Pl.tok, Pl.isBl]
  unfold Pl.edge
  rw [h]
  rfl
theorem edgeEx2 : Pl.edge 4 [99] false = ⟨false, [], [], 80, 4⟩ := by
  have h : Pl.words 4 [99] = [(4, [99])] := by
    simp [Pl.words, Pl.wordsFrom, Pl.tok, Pl.isBl]
  unfold Pl.edge
  rw [h]
  rfl
theorem rawEx (s : Bool) : Pl.rawItems [97, 32, 98, 10, 99] (Pl.plainC s) = [(true, [97], [98], 0, 0), (false, [], [], 80, 4)] := by
  unfold Pl.rawItems
  rw [if_neg (by show ¬ (1 : UInt8) = 3; decide)]
  unfold Pl.rawLines
  rw [linesEx]
  simp only [List.flatMap_cons, List.flatMap_nil, List.append_nil]
  unfold Pl.rawOf
  have e1 : Pl.bare [97, 32, 98] = false := by decide
  have e2 : Pl.bare [99] = false := by decide
  simp only [Pl.plainC, e1, e2, Bool.false_eq_true, if_false, if_true, edgeEx1, edgeEx2]
  rfl
theorem itemsEx1 : Pl.items [97, 32, 98, 10, 99] (Pl.plainC true) = [(true, [97], [98], 0, 0)] := by
  unfold Pl.items
  rw [if_pos (by decide), rawEx]
  rfl
theorem itemsEx2 : Pl.items [97, 32, 98, 10, 99] (Pl.plainC false) = [(true, [97], [98], 0, 0), (false, [], [], 80, 4)] := by
  unfold Pl.items
  rw [if_pos (by decide), rawEx]
  rfl

/-- Two items in a block of their own. -/
theorem feed_two {w : World} {va vb vc vd : Value} {t1 t2 : Bool} {a b c d : List UInt8} {e1 f1 e2 f2 : Int} (ha : Rd kb w va a) (hb : Rd kb w vb b) (hc : Rd kb w vc c) (hd : Rd kb w vd d) :
    Rd kItem (w.alloc (.cells #[.bool t1, va, vb, .int .i64 e1, .int .i64 f1, .bool t2, vc, vd, .int .i64 e2, .int .i64 f2] 36)) (.slice (some ⟨w.heap.size, 0, none⟩) 2 2) [(t1, a, b, e1, f1), (t2, c, d, e2, f2)] := by
  have hb2 := below_alloc (Below.refl w.heap.size w) (.cells #[.bool t1, va, vb, .int .i64 e1, .int .i64 f1, .bool t2, vc, vd, .int .i64 e2, .int .i64 f2] 36)
  refine krow_rd (xs := [(t1, a, b, e1, f1), (t2, c, d, e2, f2)]) (heap_alloc_new w _) (fun j x hx => ?_) trivial (by simp) (by simp)
  rcases j with _ | _ | j
  · simp only [List.getElem?_cons_zero, Option.some.injEq] at hx
    subst hx
    refine ⟨_, item_FK (Rd.below ha hb2) (Rd.below hb hb2), fun i u hu => ?_⟩
    rcases i with _ | _ | _ | _ | _ | i <;> first | exact hu | simp at hu
  · simp only [List.getElem?_cons_succ, List.getElem?_cons_zero, Option.some.injEq] at hx
    subst hx
    refine ⟨_, item_FK (Rd.below hc hb2) (Rd.below hd hb2), fun i u hu => ?_⟩
    rcases i with _ | _ | _ | _ | _ | i <;> first | exact hu | simp at hu
  · simp at hx
/-- A frozen literal of bytes, seen later. -/
theorem feed_lit {w w1 w2 : World} {C : Array Value} {t : TypeId} {fz : Nat × Nat} {xs : List UInt8} {c : Nat} (h : w.alloc (.cells C t fz) = w1) (hC : C.toList = xs.map fun c => Value.int .u8 (c.toNat : Int)) (hc : xs.length ≤ c) (hm : xs.length ≤ 1099511627776) (hb : Below w1.heap.size w1 w2) : Rd kb w2 (.slice (some ⟨w.heap.size, 0, none⟩) xs.length c) xs := by
  subst h
  exact Rd.below (Kd.V_mono (lit_rd w c C t fz xs hC hc hm) (fun _ _ => trivial)) hb

set_option maxRecDepth 100000 in
set_option maxHeartbeats 1000000 in
theorem shown11_any (w : World) : Calls Try.prog 18 #[] w fun e w' => e = .returned (.bool true) ∧ Below w.heap.size w w' := by
  have kc := fun (w : World) (C : Array Value) (n c : Nat) => Lib.run_convert_bytes_const (P := Try.prog) w 22 5 C n c Try.underlying22 Try.underlying5
  have kc2 : ∀ (w : World) (o : Obj) (C : Array Value) (n c : Nat), (convert 22 22 (.slice (some ⟨w.heap.size + 1, 0, none⟩) n c)).run Try.prog ((w.alloc o).alloc (.cells C 5)) = .ok (.slice (some ⟨w.heap.size + 1, 0, none⟩) n c) ((w.alloc o).alloc (.cells C 5 (C.size, C.size + 1))) := fun w o C n c => by
    have := kc (w.alloc o) C n c
    rwa [World.size_alloc] at this
  have kc3 : ∀ (w : World) (o o2 : Obj) (C : Array Value) (n c : Nat), (convert 22 22 (.slice (some ⟨w.heap.size + 2, 0, none⟩) n c)).run Try.prog (((w.alloc o).alloc o2).alloc (.cells C 5)) = .ok (.slice (some ⟨w.heap.size + 2, 0, none⟩) n c) (((w.alloc o).alloc o2).alloc (.cells C 5 (C.size, C.size + 1))) := fun w o o2 C n c => by
    have := kc2 (w.alloc o) o2 C n c
    rwa [World.size_alloc] at this
  have kc4 : ∀ (w : World) (o o2 o3 : Obj) (C : Array Value) (n c : Nat), (convert 22 22 (.slice (some ⟨w.heap.size + 3, 0, none⟩) n c)).run Try.prog ((((w.alloc o).alloc o2).alloc o3).alloc (.cells C 5)) = .ok (.slice (some ⟨w.heap.size + 3, 0, none⟩) n c) ((((w.alloc o).alloc o2).alloc o3).alloc (.cells C 5 (C.size, C.size + 1))) := fun w o o2 o3 C n c => by
    have := kc3 (w.alloc o) o2 o3 C n c
    rwa [World.size_alloc] at this
  go_enter Try.func18, Try.ntmps18
  go_wp2_with fail
  refine calls_at fun W1 h1 => ?_
  have hb1 : Below w.heap.size w W1 := by rw [← h1]; exact below_alloc (below_alloc (below_alloc (below_alloc (Below.refl _ _) _) _) _) _
  have Va : Rd kb W1 (.slice (some ⟨w.heap.size, 0, none⟩) 1 1) [97] := by
    rw [← h1]
    simpa [World.size_alloc] using feed_lit (w := w) (fz := (1, 2)) (C := #[.int .u8 97]) (xs := [97]) (c := 1) rfl rfl (by simp) (by simp) (below_alloc (below_alloc (below_alloc (Below.refl _ _) _) _) _)
  have Vb : Rd kb W1 (.slice (some ⟨w.heap.size + 1, 0, none⟩) 1 1) [98] := by
    rw [← h1]
    simpa [World.size_alloc] using feed_lit (w := w.alloc (.cells #[.int .u8 97] 5 (1, 2))) (fz := (1, 2)) (C := #[.int .u8 98]) (xs := [98]) (c := 1) rfl rfl (by simp) (by simp) (below_alloc (below_alloc (Below.refl _ _) _) _)
  have KX : Blk W1 (w.heap.size + 2) #[.bool true, .slice (some ⟨w.heap.size, 0, none⟩) 1 1, .slice (some ⟨w.heap.size + 1, 0, none⟩) 1 1, .int .i64 0, .int .i64 0] 36 := by
    rw [← h1]
    have := (Blk.new ((w.alloc (.cells #[.int .u8 97] 5 (1, 2))).alloc (.cells #[.int .u8 98] 5 (1, 2))) #[.bool true, .slice (some ⟨w.heap.size, 0, none⟩) 1 1, .slice (some ⟨w.heap.size + 1, 0, none⟩) 1 1, .int .i64 0, .int .i64 0] 36).alloc (.cells #[.int .u8 97, .int .u8 32, .int .u8 98, .int .u8 10, .int .u8 99] 5 (5, 6))
    simpa [World.size_alloc] using this
  have Vd : Rd kb W1 (.slice (some ⟨w.heap.size + 3, 0, none⟩) 5 5) [97, 32, 98, 10, 99] := by
    rw [← h1]
    simpa [World.size_alloc] using feed_lit (w := ((w.alloc (.cells #[.int .u8 97] 5 (1, 2))).alloc (.cells #[.int .u8 98] 5 (1, 2))).alloc (.cells #[.bool true, .slice (some ⟨w.heap.size, 0, none⟩) 1 1, .slice (some ⟨w.heap.size + 1, 0, none⟩) 1 1, .int .i64 0, .int .i64 0] 36)) (fz := (5, 6)) (C := #[.int .u8 97, .int .u8 32, .int .u8 98, .int .u8 10, .int .u8 99]) (xs := [97, 32, 98, 10, 99]) (c := 5) rfl rfl (by simp) (by simp) (Below.refl _ _)
  clear h1
  refine (plain11_any true W1).mono ?_
  rintro e W2 ⟨rfl, hb2⟩
  clear kc2 kc3 kc4
  go_wp2_with fail
  refine (list11_any _ [97, 32, 98, 10, 99] (Pl.plainC true) W2 (Rd.below Vd hb2) (by simp)).mono ?_
  rw [itemsEx1]
  rintro e W3 ⟨v3, rfl, ho3, hb3⟩
  obtain ⟨A3, c3, hv3⟩ := Kd.R_slice ho3
  subst hv3
  have hb23 := bthen hb2 hb3
  have HA := Lib.hid (Rd.below Va hb23)
  have HBv := Lib.hid (Rd.below Vb hb23)
  have HX3 : Rd kItem W3 _ [(true, [97], [98], 0, 0)] := Own.rd (Kd.R_N ho3)
  have HX := Lib.hid HX3
  have KX3 := KX.belowW hb23
  have HB3 := Lib.hid (bthen hb1 hb23)
  clear Va Vb Vd hb1 hb2 hb3 hb23 ho3 HX3 KX
  simp only [List.length_cons, List.length_nil, Nat.reduceAdd]
  go_wp2_with fail
  refine calls_at fun W4 h4 => ?_
  have hb4 : Below W3.heap.size W3 W4 := by rw [← h4]; exact below_alloc (Below.refl _ _) _
  have Ve : Rd kb W4 (.slice (some ⟨W3.heap.size, 0, none⟩) 5 5) [97, 32, 98, 10, 99] := feed_lit (w := W3) (fz := (5, 6)) (C := #[.int .u8 97, .int .u8 32, .int .u8 98, .int .u8 10, .int .u8 99]) (xs := [97, 32, 98, 10, 99]) (c := 5) h4 rfl (by simp) (by simp) (Below.refl _ _)
  clear h4
  refine (plain11_any false W4).mono ?_
  rintro e W5 ⟨rfl, hb5⟩
  go_wp2_with fail
  refine (list11_any _ [97, 32, 98, 10, 99] (Pl.plainC false) W5 (Rd.below Ve hb5) (by simp)).mono ?_
  rw [itemsEx2]
  rintro e W6 ⟨v6, rfl, ho6, hb6⟩
  obtain ⟨A6, c6, hv6⟩ := Kd.R_slice ho6
  subst hv6
  have hb36 := bthen hb4 (bthen hb5 hb6)
  have HA6 := Lib.hid (Rd.below HA.out hb36)
  have HBv6 := Lib.hid (Rd.below HBv.out hb36)
  have HX6 := Lib.hid (Rd.below HX.out hb36)
  have HY : Rd kItem W6 _ [(true, [97], [98], 0, 0), (false, [], [], 80, 4)] := Own.rd (Kd.R_N ho6)
  have HY6 := Lib.hid HY
  have KX6 := KX3.belowW hb36
  have HB6 := Lib.hid (bthen HB3.out hb36)
  obtain ⟨kx1, kx2⟩ := KX6.cell
  have hX6 := KX6.lt
  clear hb4 hb5 hb6 hb36 ho6 HY Ve KX3 HA HBv HX HB3
  simp only [List.length_cons, List.length_nil, Nat.reduceAdd]
  go_wp2_with fail
  refine calls_at fun W7 h7 => ?_
  have hb7 : Below W6.heap.size W6 W7 := by rw [← h7]; exact below_alloc (Below.refl _ _) _
  have hl7 : Rd kItem W7 (.slice (some ⟨W6.heap.size, 0, none⟩) 1 1) [(true, [97], [98], 0, 0)] := by
    rw [← h7]
    exact item_one HA6.out HBv6.out
  clear h7
  refine (sameAll_any _ _ _ _ (Rd.below HX6.out hb7) hl7).mono ?_
  rintro e W8 ⟨rfl, hb8⟩
  have hb68 := bthen hb7 hb8
  have HA8 := Lib.hid (Rd.below HA6.out hb68)
  have HBv8 := Lib.hid (Rd.below HBv6.out hb68)
  have HY8 := Lib.hid (Rd.below HY6.out hb68)
  have HB8 := Lib.hid (bthen HB6.out hb68)
  have KX8 := KX6.belowW hb68
  obtain ⟨ky1, ky2⟩ := KX8.cell
  have hX8 := KX8.lt
  clear hb7 hb8 hb68 hl7 kx1 kx2 HA6 HBv6 HX6 HY6 HB6 KX6
  go_wp2_with fail
  refine calls_at fun W9 h9 => ?_
  have hb9 : Below W8.heap.size W8 W9 := by rw [← h9]; exact below_alloc (Below.refl _ _) _
  have hl9 : Rd kItem W9 (.slice (some ⟨W8.heap.size, 0, none⟩) 2 2) [(true, [97], [98], 0, 0), (false, [], [], 80, 4)] := by
    rw [← h9]
    exact feed_two HA8.out HBv8.out (Rd.nil _ _) (Rd.nil _ _)
  clear h9
  refine (sameAll_any _ _ _ _ (Rd.below HY8.out hb9) hl9).mono ?_
  rintro e W10 ⟨rfl, hb10⟩
  have HB10 := Lib.hid (bthen HB8.out (bthen hb9 hb10))
  clear hb9 hb10 hl9 ky1 ky2 HA8 HBv8 HY8 HB8 KX8
  go_wp2_with fail
  go_ret
  exact ⟨rfl, HB10.out⟩
end Go.Proofs.Ytchbfeejpdfmhaa
/-! A Config's box, held; the codes of what a text tells. -/
set_option linter.unusedSimpArgs false
set_option linter.unusedVariables false
namespace Go.Proofs.Ytchbfeejpdfmhaa
open Go.RowKit Go.Shelf Go.Proofs.YtchbfeejpdfmhaaW.PrintWords Go.Proofs.YtchbfeejpdfmhaaW.PrintLast Go.Proofs.YtchbfeejpdfmhaaW.PrintMore
/-- The cells of a Config's box. -/
abbrev CfgAt (s : Nat) (c : Pl.Cfg) (W : World) : Prop :=
  W.cell? ⟨s, 0, none⟩ = some (.int .u8 (c.fmt.toNat : Int)) ∧ W.cell? ⟨s, 1, none⟩ = some (.bool c.num) ∧ W.cell? ⟨s, 2, none⟩ = some (.bool c.skip) ∧ W.cell? ⟨s, 3, none⟩ = some (.bool c.both) ∧ W.cell? ⟨s, 4, none⟩ = some (.bool c.loops) ∧ W.cell? ⟨s, 5, none⟩ = some (.bool c.back) ∧ W.cell? ⟨s, 6, none⟩ = some (.int .i64 c.bud) ∧ W.cell? ⟨s, 7, none⟩ = some (.int .i64 c.fan) ∧ W.cell? ⟨s, 8, none⟩ = some (.int .i64 c.sha)
theorem cfgAt_of {W : World} {s t : Nat} {c : Pl.Cfg} (h : Blk W s (cfgC c) t) : CfgAt s c W :=
  ⟨h.cell.1 0, h.cell.1 1, h.cell.1 2, h.cell.1 3, h.cell.1 4, h.cell.1 5, h.cell.1 6, h.cell.1 7, h.cell.1 8⟩
theorem cfgAt_below {W W1 : World} {s : Nat} {c : Pl.Cfg} (h : CfgAt s c W) (hb : Below W.heap.size W W1) (hlt : s < W.heap.size) : CfgAt s c W1 := by
  obtain ⟨h0, h1, h2, h3, h4, h5, h6, h7, h8⟩ := h
  exact ⟨(hb.cell (p := ⟨s, 0, none⟩) hlt).trans h0, (hb.cell (p := ⟨s, 1, none⟩) hlt).trans h1, (hb.cell (p := ⟨s, 2, none⟩) hlt).trans h2, (hb.cell (p := ⟨s, 3, none⟩) hlt).trans h3, (hb.cell (p := ⟨s, 4, none⟩) hlt).trans h4, (hb.cell (p := ⟨s, 5, none⟩) hlt).trans h5, (hb.cell (p := ⟨s, 6, none⟩) hlt).trans h6, (hb.cell (p := ⟨s, 7, none⟩) hlt).trans h7, (hb.cell (p := ⟨s, 8, none⟩) hlt).trans h8⟩

namespace Pl
def codeOk (x : ItT) : Prop := x.2.2.2.1 ≠ 1
theorem edge_code (at_ : Int) (l : List UInt8) (num : Bool) : codeOk (It.t (edge at_ l num)) := by
  unfold edge codeOk
  split
  · split
    · simp [bad, It.t]
    · split <;> simp [bad, It.t]
  · simp [bad, It.t]
theorem adj_code (at_ : Int) (l : List UInt8) (num : Bool) : ∀ x ∈ adj at_ l num, codeOk x := by
  intro x hx
  unfold adj at hx
  split at hx
  · rw [List.mem_singleton.1 hx]; simp [codeOk]
  · split at hx
    · rw [List.mem_singleton.1 hx]; simp [codeOk]
    · split at hx
      · rw [List.mem_singleton.1 hx]; simp [codeOk]
      · cases hm : labs num (words at_ l) with
        | nil => rw [hm] at hx; simp [mates] at hx
        | cons a r =>
          rw [hm] at hx
          obtain ⟨y, _, rfl⟩ := List.mem_map.1 hx
          simp [codeOk]
theorem dumpOf_code (l : List (List UInt8)) : ∀ (a : Int), ∀ x ∈ dumpOf a l, codeOk x := by
  induction l with
  | nil => intro a x hx; simp [dumpOf] at hx
  | cons y r ih =>
    intro a x hx
    simp only [dumpOf, List.mem_cons] at hx
    rcases hx with rfl | hx
    · unfold dumpOne codeOk
      split <;> simp
    · exact ih _ x hx
theorem raw_code (b : List UInt8) (c : Cfg) : ∀ x ∈ rawItems b c, codeOk x := by
  intro x hx
  unfold rawItems at hx
  split at hx
  · unfold dump at hx
    split at hx
    · exact dumpOf_code _ _ x hx
    · rw [List.mem_singleton.1 hx]; simp [codeOk]
  · obtain ⟨y, _, hy⟩ := List.mem_flatMap.1 hx
    unfold rawOf at hy
    split at hy
    · simp at hy
    · split at hy
      · rw [List.mem_singleton.1 hy]; exact edge_code _ _ _
      · exact adj_code _ _ _ x hy
theorem firstBad_sub (l : List ItT) : ∀ x ∈ firstBad l, x ∈ l := by
  induction l with
  | nil => intro x hx; simp [firstBad] at hx
  | cons y r ih =>
    intro x hx
    unfold firstBad at hx
    split at hx
    · rcases List.mem_cons.1 hx with rfl | h
      · simp
      · exact List.mem_cons_of_mem _ (ih x h)
    · rw [List.mem_singleton.1 hx]; simp
theorem items_sub (b : List UInt8) (c : Cfg) : ∀ x ∈ items b c, x ∈ rawItems b c := by
  intro x hx
  unfold items at hx
  split at hx
  · unfold cutBad at hx
    split at hx
    · exact (List.mem_filter.1 hx).1
    · exact firstBad_sub _ x hx
  · simp at hx
theorem fails_code (b : List UInt8) (c : Cfg) (h : right c = true) : (fails b c).2 ≠ 1 := by
  unfold fails
  rw [if_pos h]
  cases hf : (items b c).find? (fun x => !goodT x) with
  | none => simp
  | some x => exact raw_code b c x (items_sub b c x (List.mem_of_find?_eq_some hf))
theorem right_more {c : Cfg} (h : right c = true) : (1 : Int) ≤ (c.fmt.toNat : Int) ∧ (c.fmt.toNat : Int) ≤ 3 ∧ c.fan ≤ c.bud ∧ ((c.fmt.toNat : Int) ≠ 3 ∨ ((c.fmt.toNat : Int) = 3 ∧ c.num = true)) := by
  simp only [right, fmtOk, within, Bool.and_eq_true, Bool.or_eq_true, decide_eq_true_eq, beq_iff_eq] at h
  obtain ⟨⟨⟨h1, h2⟩, h3⟩, h4⟩ := h
  refine ⟨?_, ?_, by omega, ?_⟩
  · rcases h1 with (h | h) | h
    · rw [h]; decide
    · rw [h]; decide
    · rw [h.1]; decide
  · rcases h1 with (h | h) | h
    · rw [h]; decide
    · rw [h]; decide
    · rw [h.1]; decide
  · rcases h1 with (h | h) | h
    · rw [h]; exact .inl (by decide)
    · rw [h]; exact .inl (by decide)
    · exact .inr ⟨by rw [h.1]; rfl, h.2⟩
theorem fails_wrong (b : List UInt8) (c : Cfg) (h : right c = false) : fails b c = (0, 1) ∧ items b c = [] := by
  unfold fails items
  rw [h]
  exact ⟨rfl, rfl⟩
end Pl
/-- x[:hi], of items. -/
theorem item_to {w : World} {A : Option Addr} {c : Nat} {xs : List Pl.ItT} {ok : Nat → Prop} (h : Kd.F kItem w ok A xs.length xs) (hc : xs.length ≤ c) (k : Nat) (hk : k ≤ xs.length) :
    (∀ (kh : IntKind) (h' : Int), h' = (k : Int) → ∀ W : World, (Instr.slice 29 (.slice A xs.length c) none (some (.int kh h')) none).run Try.prog W = .ok (.slice A k c) W) ∧ Kd.V kItem 0 w 0 ok (.slice A k c) (xs.take k) := by
  obtain ⟨i0, hi0, _⟩ := Option.map_eq_some_iff.1 infoItem5
  exact row_to 29 36 Try.underlying29 hi0 h hc k hk
namespace Pl
theorem firstBad_split (l : List ItT) : (firstBad l = l ∧ ∀ x ∈ l, goodT x = true) ∨ ∃ p z r, l = p ++ z :: r ∧ (∀ x ∈ p, goodT x = true) ∧ goodT z = false ∧ firstBad l = p ++ [z] := by
  induction l with
  | nil => exact .inl ⟨rfl, fun x hx => by cases hx⟩
  | cons y r ih =>
    cases hy : goodT y with
    | false => exact .inr ⟨[], y, r, rfl, fun x hx => (by cases hx), hy, by simp [firstBad, hy]⟩
    | true =>
      rcases ih with ⟨h1, h2⟩ | ⟨p, z, r', h1, h2, h3, h4⟩
      · refine .inl ⟨by simp [firstBad, hy, h1], fun x hx => ?_⟩
        rcases List.mem_cons.1 hx with rfl | h
        · exact hy
        · exact h2 x h
      · refine .inr ⟨y :: p, z, r', by simp [h1], fun x hx => ?_, h3, by simp [firstBad, hy, h4]⟩
        rcases List.mem_cons.1 hx with rfl | h
        · exact hy
        · exact h2 x h
theorem good_code {x : ItT} (h : goodT x = true) : x.2.2.2.1 = 0 := by simpa [goodT] using h
/-- The law FeedSkips, plainly. -/
theorem skips_law (b : List UInt8) (c : Cfg) : ∃ ea : Int, fails b { c with skip := true } = (0, ea) ∧ (ea = 0 ∨ ea = 1) ∧ (∀ x ∈ items b { c with skip := true }, goodT x = true) ∧
    ((∃ p z, items b { c with skip := false } = p ++ [z] ∧ goodT z = false ∧ fails b { c with skip := false } = (z.2.2.2.2, z.2.2.2.1) ∧ p.length ≤ (items b { c with skip := true }).length ∧ (items b { c with skip := true }).take p.length = p) ∨
     (items b { c with skip := false } = items b { c with skip := true } ∧ fails b { c with skip := false } = (0, ea))) := by
  cases hr : right c with
  | false =>
    have h1 := fails_wrong b { c with skip := true } hr
    have h2 := fails_wrong b { c with skip := false } hr
    exact ⟨1, h1.1, .inr rfl, fun x hx => (by rw [h1.2] at hx; cases hx), .inr ⟨by rw [h1.2, h2.2], h2.1⟩⟩
  | true =>
    have i1 : items b { c with skip := true } = (rawItems b c).filter goodT := by
      unfold items
      rw [if_pos (show right { c with skip := true } = true from hr)]
      rfl
    have i2 : items b { c with skip := false } = firstBad (rawItems b c) := by
      unfold items
      rw [if_pos (show right { c with skip := false } = true from hr)]
      rfl
    have f1 : fails b { c with skip := true } = (0, 0) := by
      unfold fails
      rw [if_pos (show right { c with skip := true } = true from hr), i1]
      rw [show ((rawItems b c).filter goodT).find? (fun x => !goodT x) = none by
        rw [List.find?_eq_none]
        intro x hx
        simp [(List.mem_filter.1 hx).2]]
    refine ⟨0, f1, .inl rfl, fun x hx => ?_, ?_⟩
    · rw [i1] at hx
      exact (List.mem_filter.1 hx).2
    · rw [i1, i2]
      rcases firstBad_split (rawItems b c) with ⟨h1, h2⟩ | ⟨p, z, r, h1, h2, h3, h4⟩
      · refine .inr ⟨by rw [h1, filter_all h2], ?_⟩
        unfold fails
        rw [if_pos (show right { c with skip := false } = true from hr), i2, h1]
        rw [show (rawItems b c).find? (fun x => !goodT x) = none by
          rw [List.find?_eq_none]
          intro x hx
          simp [h2 x hx]]
      · have hf : (rawItems b c).filter goodT = p ++ r.filter goodT := by
          rw [h1, List.filter_append, filter_all h2]
          simp [h3]
        refine .inl ⟨p, z, h4, h3, ?_, ?_, ?_⟩
        · unfold fails
          rw [if_pos (show right { c with skip := false } = true from hr), i2, h4]
          rw [List.find?_append, show p.find? (fun x => !goodT x) = none by
            rw [List.find?_eq_none]
            intro x hx
            simp [h2 x hx]]
          simp [h3]
        · rw [hf]; simp
        · rw [hf]; simp
end Pl
end Go.Proofs.Ytchbfeejpdfmhaa
