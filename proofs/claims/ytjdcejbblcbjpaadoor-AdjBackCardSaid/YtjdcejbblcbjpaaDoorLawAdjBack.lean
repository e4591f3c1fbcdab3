import Derived.Test.YtjdcejbblcbjpaaDoorAPut
import Derived.Test.YtjdcejbblcbjpaaDoorPlainText
import Derived.Test.YtjdcejbblcbjpaaDoorPlain2
import Derived.Test.YtjdcejbblcbjpaaDoorPlainLine
import Derived.Test.YtjdcejbblcbjpaaDoorBare
import Derived.Test.YtjdcejbblcbjpaaDoorLawAdjPuts
import Derived.Test.YtjdcejbblcbjpaaDoorLines
import Derived.Test.YtjdcejbblcbjpaaDoorSameAll8
import Derived.Maps.OwnIn
/-! What was put is parsed, and is one line that is not bare: plainly. -/
set_option linter.unusedSimpArgs false
set_option linter.unusedVariables false
namespace Go.Proofs.YtjdcejbblcbjpaaDoor.Pl
/-- a word: one byte at least, none of them a blank -/
def Wd (x : List UInt8) : Prop := 1 ≤ x.length ∧ ∀ c ∈ x, bl c = false
theorem bl_isBl {c : UInt8} (h : bl c = false) : isBl c = false := by
  simp only [bl, Bool.or_eq_false_iff] at h
  simp [isBl, h.1.1.1, h.1.1.2]
theorem aword_text {l b : List UInt8} {num : Bool} (h : aword l num = some b) : text l num = some b ∧ b.any bl = false := by
  rcases ht : text l num with _ | t
  · rw [aword_none ht] at h; cases h
  · rcases hb : t.any bl with _ | _
    · rw [aword_some ht hb] at h
      injection h with h
      subst h
      exact ⟨rfl, hb⟩
    · rw [aword_blank ht hb] at h; cases h
theorem aword_wd {l b : List UInt8} {num : Bool} (h : aword l num = some b) : Wd b := by
  refine ⟨(aword_size h).1, fun c hc => ?_⟩
  have := List.any_eq_false.1 (aword_text h).2 c hc
  simpa using this
theorem aword_label {l b : List UInt8} {num : Bool} (h : aword l num = some b) : label b num = some l := label_text (aword_text h).1
theorem wf_join : ∀ (ws : List (List UInt8)) (f : List UInt8) (off : Nat), Wd f → (∀ x ∈ ws, Wd x) → (wordsFrom off (f ++ Lib.joinTail [32] ws)).map (·.2) = f :: ws
  | [], f, off, hf, _ => by
    have hne : f ≠ [] := fun h => by have := hf.1; rw [h] at this; simp at this
    simp only [Lib.joinTail, List.map_nil, List.flatten_nil, List.append_nil]
    rw [wf_last f (fun c hc => bl_isBl (hf.2 c hc)) hne]
    rfl
  | x :: ws, f, off, hf, hw => by
    have hne : f ≠ [] := fun h => by have := hf.1; rw [h] at this; simp at this
    have e : f ++ Lib.joinTail [32] (x :: ws) = f ++ 32 :: (x ++ Lib.joinTail [32] ws) := by simp [Lib.joinTail]
    rw [e, wf_word f (fun c hc => bl_isBl (hf.2 c hc)) hne 32 _ (by decide) off]
    rw [List.map_cons, wf_join ws x _ (hw x (by simp)) (fun y hy => hw y (by simp [hy]))]
theorem badAt_ok (num : Bool) : ∀ q : List (Int × List UInt8), (∀ x ∈ q, (label x.2 num).isSome = true) → badAt num q = none
  | [], _ => rfl
  | x :: q, h => by
    have h1 := h x (by simp)
    rcases hl : label x.2 num with _ | b
    · rw [hl] at h1; cases h1
    · have := badAt_ok num q fun y hy => h y (by simp [hy])
      simp [badAt, hl, this]
/-- what must be told -/
def want (v : List UInt8) (ts : List (List UInt8)) : List ItT := if ts = [] then [(false, v, [], 0, 0)] else ts.map fun x => (true, v, x, 0, 0)
theorem mates_map (v : List UInt8) (ts : List (List UInt8)) : mates (v :: ts) = ts.map fun x => (true, v, x, 0, 0) := rfl
theorem awl_words {ts : List (List UInt8)} {num : Bool} (h : awBad ts num = false) : (∀ x ∈ awl ts num, Wd x ∧ (label x num).isSome = true) ∧ (awl ts num).map (fun y => (label y num).getD []) = ts := by
  have hall : ∀ l ∈ ts, ∃ b, aword l num = some b := fun l hl => by
    have h1 := List.any_eq_false.1 h l hl
    rcases hw : aword l num with _ | b
    · rw [hw] at h1; exact absurd rfl h1
    · exact ⟨b, rfl⟩
  constructor
  · intro x hx
    obtain ⟨l, hl, rfl⟩ := List.mem_map.1 hx
    obtain ⟨b, hb⟩ := hall l hl
    rw [hb]
    exact ⟨aword_wd hb, by rw [Option.getD_some, aword_label hb]; rfl⟩
  · rw [awl, List.map_map]
    have : ∀ l ∈ ts, ((fun y => (label y num).getD []) ∘ fun l => (aword l num).getD []) l = id l := fun l hl => by
      obtain ⟨b, hb⟩ := hall l hl
      simp [hb, aword_label hb]
    rw [List.map_congr_left this, List.map_id]
theorem put_parts {v : List UInt8} {ts : List (List UInt8)} {num : Bool} {p : List UInt8} (h : aput v ts num = some p) : ∃ f, aword v num = some f ∧ ¬ f.getD 0 0 = 35 ∧ awBad ts num = false ∧ p = f ++ Lib.joinTail [32] (awl ts num) := by
  rcases hf : aword v num with _ | f
  · rw [aput_none hf] at h; cases h
  · by_cases h35 : f.getD 0 0 = 35
    · rw [aput_hash hf h35] at h; cases h
    · rcases hb : awBad ts num with _ | _
      · rw [aput_some hf h35 hb] at h
        injection h with h
        exact ⟨f, rfl, h35, rfl, h.symm⟩
      · rw [aput_bad hf h35 hb] at h; cases h
/-- What was put is parsed. -/
theorem adj_put {v : List UInt8} {ts : List (List UInt8)} {num : Bool} {p : List UInt8} (h : aput v ts num = some p) : adj 0 p num = want v ts := by
  obtain ⟨f, hf, _, hb, rfl⟩ := put_parts h
  obtain ⟨h1, h2⟩ := awl_words hb
  have hw := wf_join (awl ts num) f 0 (aword_wd hf) fun x hx => (h1 x hx).1
  obtain ⟨q, hq⟩ : ∃ q, words 0 (f ++ Lib.joinTail [32] (awl ts num)) = q := ⟨_, rfl⟩
  have hq2 : q.map (·.2) = f :: awl ts num := by
    rw [← hq, words, List.map_map, ← hw]
    rfl
  have hlen : q.length = ts.length + 1 := by
    have := congrArg List.length hq2
    simpa [awl_len] using this
  have hok : badAt num q = none := badAt_ok num q fun x hx => by
    have hm : x.2 ∈ f :: awl ts num := by rw [← hq2]; exact List.mem_map.2 ⟨x, hx, rfl⟩
    rcases List.mem_cons.1 hm with e | hm
    · rw [e, aword_label hf]; rfl
    · exact (h1 _ hm).2
  have hlab : labs num q = v :: ts := by
    have : labs num q = (q.map (·.2)).map fun y => (label y num).getD [] := by rw [labs, List.map_map]; rfl
    rw [this, hq2, List.map_cons, h2, aword_label hf]
    rfl
  by_cases ht : ts = []
  · subst ht
    rw [adj_one hq (by simpa using hlen) hok, hlab]
    rfl
  · have hl : 1 ≤ ts.length := by
      rcases ts with _ | ⟨a, b⟩
      · exact absurd rfl ht
      · simp
    rw [adj_more hq (by omega) hok, hlab, mates_map, want, if_neg ht]
theorem put_bytes {v : List UInt8} {ts : List (List UInt8)} {num : Bool} {p : List UInt8} (h : aput v ts num = some p) : ∀ c ∈ p, bl c = false ∨ c = 32 := by
  obtain ⟨f, hf, _, hb, rfl⟩ := put_parts h
  intro c hc
  rcases List.mem_append.1 hc with hc | hc
  · exact Or.inl ((aword_wd hf).2 c hc)
  · obtain ⟨m, hm, hcm⟩ := List.mem_flatten.1 hc
    obtain ⟨x, hx, rfl⟩ := List.mem_map.1 hm
    rcases List.mem_append.1 hcm with hc | hc
    · exact Or.inr (List.mem_singleton.1 hc)
    · exact Or.inl (((awl_words hb).1 x hx).1.2 c hc)
theorem put_len {v : List UInt8} {ts : List (List UInt8)} {num : Bool} {p : List UInt8} (h : aput v ts num = some p) : 1 ≤ p.length ∧ p.length ≤ 32 + 33 * ts.length := by
  obtain ⟨f, hf, _, hb, rfl⟩ := put_parts h
  have h1 := aword_size hf
  have h2 := tail_len ts num
  rw [List.length_append]
  omega
/-- .. and is one line. -/
theorem lines_put {v : List UInt8} {ts : List (List UInt8)} {num : Bool} {p : List UInt8} (h : aput v ts num = some p) : lines p = [((0 : Int), p)] := by
  have hb := put_bytes h
  have hl := put_len h
  have hne : p ≠ [] := fun e => by rw [e] at hl; simp at hl
  have h10 : ∀ c ∈ p, (!(c == 10)) = true := fun c hc => by
    rcases hb c hc with h1 | h1
    · simp only [bl, Bool.or_eq_false_iff] at h1
      simp [h1.2]
    · subst h1; decide
  have hcut : cutLen 10 p = p.length := by
    have hall : ∀ l : List UInt8, (∀ c ∈ l, (!(c == 10)) = true) → l.takeWhile (fun c => !(c == 10)) = l := by
      intro l
      induction l with
      | nil => intro _; rfl
      | cons c l ih =>
        intro hc
        rw [List.takeWhile_cons, if_pos (hc c (by simp)), ih fun d hd => hc d (by simp [hd])]
    rw [cutLen, hall p h10]
  have htrim : trimB 13 p = p := by
    rw [trimB, if_neg]
    rintro ⟨_, h13⟩
    have hm : p.getD (p.length - 1) 0 ∈ p := by
      rw [List.getD_eq_getElem?_getD, List.getElem?_eq_getElem (by omega), Option.getD_some]
      exact List.getElem_mem _
    rw [h13] at hm
    rcases hb 13 hm with h1 | h1
    · exact absurd h1 (by decide)
    · exact absurd h1 (by decide)
  rw [lines, linesFrom_cons 0 hne, hcut, List.take_of_length_le (Nat.le_refl _), htrim, List.drop_of_length_le (by omega), linesFrom_nil]
  rfl
/-- .. that is not bare. -/
theorem bare_put {v : List UInt8} {ts : List (List UInt8)} {num : Bool} {p : List UInt8} (h : aput v ts num = some p) : bare p = false := by
  obtain ⟨f, hf, h35, hb, rfl⟩ := put_parts h
  obtain ⟨h1, h2⟩ := aword_wd hf
  rcases f with _ | ⟨c, f⟩
  · simp at h1
  · have hc := bl_isBl (h2 c (by simp))
    have h3 : ¬ c = 35 := fun e => h35 (by rw [e]; rfl)
    simp [bare, List.dropWhile_cons, hc, bareOf, h3]
end Go.Proofs.YtjdcejbblcbjpaaDoor.Pl
/-! The law AdjBack, walked. -/
set_option linter.unusedSimpArgs false
set_option linter.unusedVariables false
namespace Go.Proofs.YtjdcejbblcbjpaaDoor
open Go.RowKit Go.Shelf Go.Proofs.YtjdcejbblcbjpaaDoorW.PrintWords Go.Proofs.YtjdcejbblcbjpaaDoorW.PrintLast Go.Proofs.YtjdcejbblcbjpaaDoorW.PrintMore
attribute [local go_sem] max2_int min2_int max_two min_two Oper.semAt_some

theorem few09_ok (v : Value) (l : List UInt8) (ok : Nat → Prop) (w : World) (hv : Kd.V kb 0 w 0 ok v l) : Calls Tryd.prog 6 #[v] w fun e w' => ∃ v', e = .returned v' ∧ Kd.V kb 0 w 0 ok v' (l.take 300) ∧ w = w' := by
  obtain ⟨A, c, rfl, hc, hF⟩ := hv
  obtain ⟨hcut, hV⟩ := byte_to hF hc (min l.length 300) (by omega)
  have hm := Kd.F_max hF
  have HV := Lib.hid hV
  have e1 : l.take (min l.length 300) = l.take 300 := by
    rcases Nat.le_total l.length 300 with h | h
    · rw [Nat.min_eq_left h, List.take_of_length_le (Nat.le_refl _), List.take_of_length_le h]
    · rw [Nat.min_eq_right h]
  have HE := Lib.hid e1
  clear hV hF e1
  by_cases h : l.length ≤ 300
  · replace hcut := hcut .i64 (l.length : Int) (by omega)
    have h2 : ¬ (300 : Int) < (l.length : Int) := by omega
    go_enter Tryd.func6, Tryd.ntmps6
    go_wp2_with fail
    go_ret
    exact ⟨_, rfl, by have := HV.out; rw [HE.out, Nat.min_eq_left h] at this; exact this, rfl⟩
  · replace hcut := hcut .i64 (300 : Int) (by omega)
    have h2 : (300 : Int) < (l.length : Int) := by omega
    go_enter Tryd.func6, Tryd.ntmps6
    go_wp2_with fail
    go_ret
    exact ⟨_, rfl, by have := HV.out; rw [HE.out] at this; rw [Nat.min_eq_right (by omega)] at this ⊢; exact this, rfl⟩
theorem some09_ok (v : Value) (l : List (List UInt8)) (ok : Nat → Prop) (w : World) (hv : Kd.V kBytes 0 w 0 ok v l) : Calls Tryd.prog 7 #[v] w fun e w' => ∃ v', e = .returned v' ∧ Kd.V kBytes 0 w 0 ok v' (l.take 20) ∧ w = w' := by
  obtain ⟨A, c, rfl, hc, hF⟩ := hv
  obtain ⟨i0, hi0, _⟩ := Option.map_eq_some_iff.1 infoBytes
  obtain ⟨hcut, hV⟩ := row_to 23 22 Tryd.underlying23 hi0 hF hc (min l.length 20) (by omega)
  have hm := Kd.F_max hF
  have HV := Lib.hid hV
  have e1 : l.take (min l.length 20) = l.take 20 := by
    rcases Nat.le_total l.length 20 with h | h
    · rw [Nat.min_eq_left h, List.take_of_length_le (Nat.le_refl _), List.take_of_length_le h]
    · rw [Nat.min_eq_right h]
  have HE := Lib.hid e1
  clear hV hF e1 hi0
  by_cases h : l.length ≤ 20
  · replace hcut := hcut .i64 (l.length : Int) (by omega)
    have h2 : ¬ (20 : Int) < (l.length : Int) := by omega
    go_enter Tryd.func7, Tryd.ntmps7
    go_wp2_with fail
    go_ret
    exact ⟨_, rfl, by have := HV.out; rw [HE.out, Nat.min_eq_left h] at this; exact this, rfl⟩
  · replace hcut := hcut .i64 (20 : Int) (by omega)
    have h2 : (20 : Int) < (l.length : Int) := by omega
    go_enter Tryd.func7, Tryd.ntmps7
    go_wp2_with fail
    go_ret
    exact ⟨_, rfl, by have := HV.out; rw [HE.out] at this; rw [Nat.min_eq_right (by omega)] at this ⊢; exact this, rfl⟩
theorem all_any (v : Value) (b : List UInt8) (w : World) (hv : Rd kb w v b) :
    Calls Tryd.prog 11 #[v] w fun e w' => e = .returned (.func (.func 20) #[] #[.pointer (some ⟨w.heap.size, 0, none⟩)]) ∧ w' = w.alloc (.cells #[v] 22) := by
  obtain ⟨A, c, rfl⟩ := Kd.V_slice hv
  clear hv
  go_enter Tryd.func11, Tryd.ntmps11
  go_wp2_with fail
  go_ret
  exact ⟨rfl, rfl⟩
theorem Turned.grown {W W1 : World} {l : Nat} (h : Turned W W1 l) : W.grownBy W1 (some l) := by
  obtain ⟨o, rfl⟩ := h.eq
  exact grownBy_putObj' W l o
theorem Turned.blk {W W1 : World} {l g : Nat} {cs : Array Value} {t : TypeId} (hT : Turned W W1 l) (h : Blk W g cs t) : Blk W1 g cs t :=
  h.grown hT.grown (fun he => by
    cases he
    obtain ⟨o, ho, hf⟩ := hT.was
    rw [h.out] at ho
    cases ho
    cases hf)
/-- A block that is no cells may turn. -/
theorem R_turn {α : Type} {d : Kd α} {e base : Nat} {W W1 : World} {ok : Nat → Prop} {v : Value} {xs : List α} {row : Option Nat} (h : d.R e W base ok v xs) (hg : W.grownBy W1 row) (hr : ∀ r, row = some r → ∃ o : Obj, W.heap[r]? = some o ∧ o.isCells = false) : d.R e W1 base ok v xs :=
  Kd.R_mono (Kd.R_move (Kd.R_bound h) (fun k hk => by
    obtain ⟨_, _, hlt, q, _, cells, hc⟩ := hk
    refine hg.block k hlt (fun he => ?_)
    obtain ⟨o, ho, hf⟩ := hr k he.symm
    rw [hc] at ho
    cases ho
    cases hf)) (fun _ hk => hk.1)
theorem Turned.R {α : Type} {d : Kd α} {e base : Nat} {W W1 : World} {l : Nat} {ok : Nat → Prop} {v : Value} {xs : List α} (hT : Turned W W1 l) (h : d.R e W base ok v xs) : d.R e W1 base ok v xs :=
  R_turn h hT.grown (fun r he => by cases he; exact hT.was)
theorem old_V {α : Type} {d : Kd α} {w : World} {v : Value} {xs : List α} (h : Rd d w v xs) : Kd.V d 0 w 0 (fun k => k < w.heap.size) v xs := by
  obtain ⟨A, c, he, hc, hF⟩ := h
  exact ⟨A, c, he, hc, Kd.F_mono (Kd.F_bound hF) fun k hk => hk.2⟩

/-- Between two rounds: how many there were, in a box of their own; all that was there before is as it was. -/
structure BackI (Wz : World) (pre : List LineX) (W : World) : Prop where
  n : Blk W Wz.heap.size #[.int .i64 (pre.length : Int)] 3
  bel : Below Wz.heap.size Wz W
theorem backI_own (Wz : World) (B : Nat) (hB : Wz.heap.size + 1 ≤ B) : OwnFrom B (BackI Wz) := by
  rintro pre W W1 row ⟨h4, h6⟩ hg hr
  exact ⟨h4.grown hg (fun he => by have := (hr _ he.symm).1; omega), h6.grown hg h6.size (fun k he => by have := (hr k he).1; omega)⟩
/-- Behind the loop. -/
def BackMid (Wz : World) (a : Act) (Wr : World) (e : Exit) (a' : Act) (W' : World) : Prop :=
  e = .normal ∧ ∃ D, Wr.heap.size ≤ D ∧ a' = { a with defers := { target := .collected D, args := #[] } :: a.defers } ∧ W'.heap[D]? = some (.deferred (some [])) ∧ BackI Wz [⟨0, 0, [], none, 0⟩] W'
theorem back_mid {P : Program} {co : Code} {Wz : World} {Q : Exit → Act → World → Prop} {a : Act} {W : World} (h : co.wpIn Fence.wide 9 P (BackMid Wz a W) a W) (hq : ∀ e a' W', BackMid Wz a W e a' W' → Q e a' W') : co.wp P Q a W := wpIn_wide.1 (wpIn_mono h (fun e a' W' h => hq e a' W' h))

set_option maxRecDepth 100000 in
set_option maxHeartbeats 8000000 in
theorem adjBack_walk (va vt : Value) (a : List UInt8) (ts : List (List UInt8)) (num : Bool) (w : World) (ha : Rd kb w va a) (hto : Rd kBytes w vt ts) (hll : ∀ l ∈ ts, l.length ≤ 140737488355328) (ht : Tab3 w) :
    Calls Tryd.prog 4 #[va, vt, .bool num] w fun e w' => e = .returned (.bool true) ∧ Below w.heap.size w w' := by
  have HA := Lib.hid (old_V ha)
  have HTO := Lib.hid (old_V hto)
  have HT := Lib.hid ht
  obtain ⟨a', hae⟩ : ∃ a', a.take 300 = a' := ⟨_, rfl⟩
  obtain ⟨ts', hte⟩ : ∃ ts', ts.take 20 = ts' := ⟨_, rfl⟩
  have HE := Lib.hid (⟨hae, hte⟩ : a.take 300 = a' ∧ ts.take 20 = ts')
  have HL := Lib.hid (show ∀ l ∈ ts', l.length ≤ 140737488355328 from fun l hl => hll l (List.mem_of_mem_take (by rw [hte]; exact hl)))
  have hal : a'.length ≤ 300 := by rw [← hae, List.length_take]; omega
  have htl : ts'.length ≤ 20 := by rw [← hte, List.length_take]; omega
  clear ha hto ht hll hae hte
  refine (callsIn_wide (n := 9)).1 ?_
  refine callsIn_of_wp_marks Tryd.func4 rfl trivial ?_ rfl
  simp only [Tryd.ntmps4, List.size_toArray, List.length_cons, List.length_nil, Nat.reduceAdd, Nat.reduceSub, Array.replicate_succ, Array.replicate_zero, List.push_toArray, List.append_toArray, List.nil_append, List.cons_append]
  refine wpIn_wide.2 ?_
  go_wp2_with fail
  refine calls_at fun W1 hW1 => ?_
  have hb1 : Below w.heap.size w W1 := by rw [← hW1]; exact below_alloc (Below.refl _ _) _
  have K1 : Blk W1 w.heap.size #[.bool false] 4 := by rw [← hW1]; exact Blk.new _ _ _
  clear hW1
  refine (shown09_any W1).mono ?_
  rintro e w2 ⟨rfl, hb2⟩
  have K2 := Lib.hid (K1.belowW hb2)
  have HB2 := Lib.hid (bthen hb1 hb2)
  clear hb1 hb2 K1
  go_wp2_with fail
  refine (few09_ok va a _ w2 (Kd.V_below HA.out HB2.out)).mono ?_
  rintro e w3 ⟨v3, rfl, hr3, rfl⟩
  rw [HE.out.1] at hr3
  have HR3 := Lib.hid hr3
  clear hr3
  go_wp2_with fail
  refine (some09_ok vt ts _ w2 (Kd.V_below HTO.out HB2.out)).mono ?_
  rintro e w3 ⟨v4, rfl, hr4, rfl⟩
  rw [HE.out.2] at hr4
  have HR4 := Lib.hid hr4
  clear hr4
  go_wp2_with fail
  refine (aput_any v3 v4 a' ts' num w2 (Kd.V_mono HR3.out fun _ _ => trivial) (Kd.V_mono HR4.out fun _ _ => trivial) (by omega) htl HL.out (HT.out.below HB2.out)).mono ?_
  rintro e w5 ⟨v5, rfl, hr5, hb5⟩
  have K5 := Lib.hid (K2.out.belowW hb5)
  have HB5 := Lib.hid (bthen HB2.out hb5)
  obtain ⟨A5, c5, hv5, _, _⟩ := id hr5
  subst hv5
  clear hb5
  rcases ho : Pl.aput a' ts' num with _ | p
  · rw [ho] at hr5
    simp only [Option.isSome_none, Option.getD_none, List.length_nil]
    go_upto_region 4 with fail
    refine wp_at fun W6 hW6 => ?_
    have K6 := K5.out.alloc (.cells #[.slice A5 0 c5] 22)
    have HB6 := Lib.hid (below_alloc HB5.out (.cells #[.slice A5 0 c5] 22))
    have KP : Blk (w5.alloc (.cells #[.slice A5 0 c5] 22)) w5.heap.size #[.slice A5 0 c5] 22 := Blk.new _ _ _
    rw [show w5.alloc (.cells #[.slice A5 0 c5] 22) = W6 from hW6] at K6 HB6 KP
    obtain ⟨k0, k1⟩ := K6.cell
    have kp0 : W6.cell? ⟨w5.heap.size, 0, none⟩ = some (.slice A5 0 c5) := KP.cell.1 0
    have k00 : W6.cell? ⟨w.heap.size, 0, none⟩ = some (.bool false) := k0 0
    have k10 : W6.frozen? ⟨w.heap.size, 0, none⟩ = false := k1 0
    clear hW6 k0 k1
    go_wp2_with fail
    have er := (K6.set (cs' := #[.bool true]) 0 (.bool true) rfl).cell.1 0
    refine ⟨.bool true, by simp [results, Tryd.results4, go_sem, er], rfl, ?_⟩
    exact bset HB6.out (p := ⟨w.heap.size, 0, none⟩) (Nat.le_refl _) _
  · rw [ho] at hr5
    simp only [Option.isSome_some, Option.getD_some] at hr5 ⊢
    have HP5 := Lib.hid hr5
    have HPL := Lib.hid (Pl.put_len ho)
    have HO := Lib.hid ho
    go_upto_region 5 with fail
    refine wp_at fun W6 hW6 => ?_
    have hb6 : Below w5.heap.size w5 W6 := by rw [← hW6]; exact below_alloc (Below.refl _ _) _
    have K6 := K5.out.belowW hb6
    have KP6 : Blk W6 w5.heap.size #[.slice A5 p.length c5] 22 := by rw [← hW6]; exact Blk.new _ _ _
    have HB6 := Lib.hid (bthen HB5.out hb6)
    have HP6 := Lib.hid (Rd.below HP5.out hb6)
    have kp0 : W6.cell? ⟨w5.heap.size, 0, none⟩ = some (.slice A5 p.length c5) := KP6.cell.1 0
    clear hW6 hb6 hr5 ho
    go_wp2_with fail
    have hpl := HPL.out
    refine (aparse_any _ 0 p num W6 HP6.out (by omega) (by omega) (by omega)).mono ?_
    rintro e w7 ⟨v7, rfl, hr7, hb7⟩
    rw [Pl.adj_put HO.out] at hr7
    have HR7 := Lib.hid hr7
    have HB7 := Lib.hid (bthen HB6.out hb7)
    have HP7 := Lib.hid (Rd.below HP6.out hb7)
    have KP7 := Lib.hid (KP6.belowW hb7)
    have K7 := Lib.hid (K6.belowW hb7)
    clear hr7 hb7 kp0 hpl KP6 K6
    go_wp2_with fail
    refine (some09_ok vt ts _ w7 (Kd.V_below HTO.out HB7.out)).mono ?_
    rintro e w8 ⟨v8, rfl, hr8, rfl⟩
    rw [HE.out.2] at hr8
    obtain ⟨A8, c8, hv8, hc8, hF8⟩ := id hr8
    subst hv8
    have HF8 := Lib.hid hF8
    clear hr8 hF8
    go_wp2_with fail
    go_loopw [11, 13, 42] (fun u x i wr => ∃ k : Nat, i = .int .i64 (k : Int) ∧ Aside0 (k ≤ ts'.length) ∧ Aside0 (Kd.N kItem 36 wr w7.heap.size (fun j => j < w.heap.size ∨ w7.heap.size ≤ j) u ((ts'.take k).map fun x => (true, a', x, 0, 0))) ∧ Aside0 (Below w7.heap.size w7 wr)) (fun _ _ i _ => ts'.length - (intOf i).toNat)
    case atStart => exact ⟨0, rfl, ⟨by omega⟩, ⟨by simpa using Kd.N_nil kItem 36 w7 w7.heap.size _⟩, ⟨Below.refl _ _⟩⟩
    case round =>
      obtain ⟨k, rfl, hk, HOO, HBB⟩ := hrel
      obtain ⟨L, hL⟩ : ∃ L : List Pl.ItT, (ts'.take k).map (fun x => (true, a', x, (0 : Int), (0 : Int))) = L := ⟨_, rfl⟩
      have hLl : L.length ≤ 20 := by rw [← hL, List.length_map, List.length_take]; omega
      rw [hL] at HOO
      have HLL := Lib.hid hL
      obtain ⟨A9, c9, hv9⟩ := Kd.N_slice HOO.out
      subst hv9
      clear hL
      have HBW := Lib.hid (bthen HB7.out HBB.out)
      by_cases hlt : k < ts'.length
      · have q0 : (0 : Int) ≤ (k : Int) := by omega
        have q1 : (k : Int) < (ts'.length : Int) := by omega
        have hw1 : IntKind.i64.wrap ((k : Int) + 1) = (k : Int) + 1 := IntWalk.i64_in _ (by omega)
        obtain ⟨x, hx⟩ : ∃ x, ts'[k]? = some x := ⟨_, List.getElem?_eq_getElem hlt⟩
        obtain ⟨ad, A2, c2, rfl, hcell, hV⟩ := rows_get HF8.out k x hx
        have hc2 := cell_below HBB.out hcell
        have HV := Lib.hid (Kd.V_below hV HBB.out)
        have HLN := Lib.hid (show L ++ [(true, a', x, (0 : Int), (0 : Int))] = (ts'.take (k + 1)).map (fun x => (true, a', x, (0 : Int), (0 : Int))) by rw [← HLL.out, List.take_add_one, hx]; simp)
        clear hcell hV hx
        go_wp2_with fail
        refine (few09_ok va a _ wr (Kd.V_below HA.out HBW.out)).mono ?_
        rintro e w9 ⟨vf, rfl, hrf, rfl⟩
        rw [HE.out.1] at hrf
        obtain ⟨Af, cf, hvf, _, _⟩ := id hrf
        subst hvf
        have HRF := Lib.hid hrf
        clear hrf
        go_wp2_with ((with_reducible refine gate_builtin (b := .append) (xs := #[.tmp 46, .tmp 51]) rfl ?_); at_builtin; refine Kd.N_append kItem (w0 := w7) w7.heap.size rfl (.tmp 46) (.tmp 51) 30 36 (.agg #[.bool false, .slice none 0 0, .slice none 0 0, .int .i64 0, .int .i64 0]) 72 rfl Tryd.underlying30 infoItem5 rfl (by decide) (by omega) _ L (true, a', x, 0, 0) [.bool true, .slice Af a'.length cf, .slice A2 x.length c2, .int .i64 0, .int .i64 0] (fun j => j < w.heap.size ∨ w7.heap.size ≤ j) (fun j => j < w.heap.size) rfl rfl ?aP ?aQ ?aF ?aO ?aB ?aS ?aL ?_; (case aP => exact item_FK HRF.out HV.out); (case aQ => exact fun j hj => ⟨Or.inl hj, fun he => by have h1 := Kd.N_base HOO.out j he.symm; have h2 := HB7.out.size; omega⟩); (case aF => exact fun j hj => Or.inr (Nat.le_trans HBB.out.size hj)); (case aO => exact HOO.out); (case aB => exact HBB.out); (case aS => exact HBB.out.size); (case aL => omega); intro v9 w9 ho9 hb9 hg9 hat9)
        go_roundw
        case rel => exact ⟨k + 1, by go_num, ⟨by omega⟩, ⟨by rw [← HLN.out]; exact ho9⟩, ⟨hb9⟩⟩
        case measure => simp [intOf]; omega
      · obtain rfl : k = ts'.length := by have := hk.out; omega
        have HLE := Lib.hid (show ts'.map (fun x => (true, a', x, (0 : Int), (0 : Int))) = L by rw [← HLL.out, List.take_of_length_le (Nat.le_refl _)])
        have hLn : L.length = ts'.length := by rw [← HLE.out, List.length_map]
        have HRW := Lib.hid (n_rd HOO.out)
        have HR7w := Lib.hid (Rd.below HR7.out HBB.out)
        have HP7w := Lib.hid (Rd.below HP7.out HBB.out)
        have KP7w := Lib.hid (KP7.out.belowW HBB.out)
        have K7w := Lib.hid (K7.out.belowW HBB.out)
        by_cases h0 : ts' = []
        · have hl0 : L.length = 0 := by rw [hLn, h0]; rfl
          rw [hl0]
          go_wp2_with fail
          refine (few09_ok va a _ wr (Kd.V_below HA.out HBW.out)).mono ?_
          rintro e w9 ⟨vf, rfl, hrf, rfl⟩
          rw [HE.out.1] at hrf
          obtain ⟨Af, cf, hvf, _, _⟩ := id hrf
          subst hvf
          have hqq := item_one (w := wr) (two := false) (code := 0) (at_ := 0) (Kd.V_mono hrf fun _ _ => trivial) (Rd.nil _ _ : Rd kb wr (.slice none 0 0) [])
          go_upto_region 14 with fail
          refine wp_at fun Wz hWz => ?_
          have hbz : Below wr.heap.size wr Wz := by rw [← hWz]; exact below_alloc (Below.refl _ _) _
          have HQz := Lib.hid (show Rd kItem Wz (.slice (some ⟨wr.heap.size, 0, none⟩) (Pl.want a' ts').length 1) (Pl.want a' ts') by
            rw [show Pl.want a' ts' = [(false, a', [], 0, 0)] from if_pos h0, ← hWz]
            exact hqq)
          have hql : (Pl.want a' ts').length = 1 := by rw [show Pl.want a' ts' = [(false, a', [], 0, 0)] from if_pos h0]; rfl
          rw [hql] at HQz
          clear hrf hqq hWz
          have HBz := Lib.hid (bthen HBW.out hbz)
          have HLz := Lib.hid (Rd.below HR7w.out hbz)
          have HPz := Lib.hid (Rd.below HP7w.out hbz)
          have KPz := Lib.hid (KP7w.out.belowW hbz)
          have Kz := Lib.hid (K7w.out.belowW hbz)
          clear hbz
          go_upto_region 15 with fail
          refine wp_at fun Wn hWn => ?_
          have hbn : Below Wz.heap.size Wz Wn := by rw [← hWn]; exact below_alloc (Below.refl _ _) _
          have KN : Blk Wn Wz.heap.size #[.int .i64 0] 3 := by rw [← hWn]; exact Blk.new _ _ _
          have kpn : Wn.cell? ⟨w5.heap.size, 0, none⟩ = some (.slice A5 p.length c5) := (KPz.out.belowW hbn).cell.1 0
          have HPn := Lib.hid (Rd.below HPz.out hbn)
          have HBn := Lib.hid (bthen HBz.out hbn)
          have HZn := Lib.hid hbn
          have HNz := Lib.hid KN.lt
          clear hWn hbn
          go_wp2_with fail
          refine (all_any _ p Wn HPn.out).mono ?_
          rintro e wA ⟨rfl, hwA⟩
          have hbA : Below Wn.heap.size Wn wA := by rw [hwA]; exact below_alloc (Below.refl _ _) _
          have HFA := Lib.hid (show Blk wA Wn.heap.size #[.slice A5 p.length c5] 22 ∧ Below Wn.heap.size Wn wA from ⟨by rw [hwA]; exact Blk.new _ _ _, hbA⟩)
          have HKA := Lib.hid (show Blk wA Wz.heap.size #[.int .i64 0] 3 ∧ Wz.heap.size + 1 ≤ wA.heap.size from ⟨KN.belowW hbA, (KN.belowW hbA).lt⟩)
          have HPA := Lib.hid (Rd.below HPn.out hbA)
          have HZA := Lib.hid (bthen HZn.out hbA)
          clear hwA hbA kpn KN
          have hnil : ∀ (cap : Array Value) (W : World), (binOp .eql 37 (.func (.func 20) #[] cap) Value.nilFunc).run Tryd.prog W = .ok (.bool false) W := fun cap W => by kernel_rfl
          go_wp2_with fail
          refine back_mid (Wz := Wz) ?range ?after
          case range =>
            refine range_seq rfl (by omega) (gf := 20) (lb := #[.pointer (some ⟨Wn.heap.size, 0, none⟩)]) rfl trivial (enters_of Tryd.func20 (by kernel_rfl) rfl)
              (all1_seq 8 (by omega) Wn.heap.size (.slice A5 p.length c5) p (by have := HPL.out; omega) Wz wA HZA.out HFA.out.1.lt (HFA.out.1.cell.1 0) HPz.out) (fun h k => ⟨h.1.trans k.1, fun u hu => k.2 u (h.2 u hu)⟩) (fun W l o o' hl h hc hw => ⟨belowK_b HZA.out.size W l o o' hl h hc hw, fun u hu => cell_kept hu (grownBy_putObj' W l o') (fun r e => by cases e; exact ⟨o, h, hc⟩)⟩) (fun _ => rfl)
              (BackI Wz) (fun _ _ _ => False) (backI_own Wz _ HKA.out.2) (fun _ _ _ _ _ h _ _ => h) ⟨HKA.out.1, HZA.out⟩ ?round ?done ?stop
            case stop => exact fun D c pre W _ _ h _ => h.elim
            case done =>
              intro D xs W hD hS hI hK
              refine ⟨rfl, D, hD, rfl, hK, ?_⟩
              rw [Pl.lines_put HO.out] at hS
              have hxl : xs.length = 1 := by have := congrArg List.length hS; simpa using this
              exact ⟨by have := hI.n; rw [hxl] at this; exact this, hI.bel⟩
            case round =>
              intro l pre x W hl1 hl2 hI hG
              obtain ⟨hG1, ⟨rest, hG2⟩, hG3⟩ := hG
              rw [Pl.lines_put HO.out] at hG2
              have hpre : pre = [] := by
                rcases pre with _ | ⟨y, ys⟩
                · rfl
                · have := congrArg List.length hG2
                  simp at this
              subst hpre
              obtain ⟨xi, xat, xbs, xA, xc⟩ := x
              have hx : xat = 0 ∧ xbs = p := by
                have h9 : LineX.line ⟨xi, xat, xbs, xA, xc⟩ = (0, p) := by
                  simp only [List.nil_append, List.map_cons, List.map_nil, List.cons_append, List.cons.injEq] at hG2
                  exact hG2.1
                exact ⟨congrArg Prod.fst h9, congrArg Prod.snd h9⟩
              simp only at hG1 hG3
              have hxi : xi = 0 := by simpa using hG1
              have HXX := Lib.hid (⟨hx.1, hx.2, hxi⟩ : xat = 0 ∧ xbs = p ∧ xi = 0)
              clear hx hxi hG1
              dsimp only [LineX.encs]
              gi_wp2
              obtain ⟨rfl, rfl, rfl⟩ := HXX.out
              refine ⟨KeepsOthers.alloc _ _, fun W2 hT => ?_⟩
              have hal := below_alloc (Below.refl W.heap.size W) (.cells #[.int .i64 0, .slice xA xbs.length xc] 33)
              have kn2 := hT.blk (hI.n.alloc (.cells #[.int .i64 0, .slice xA xbs.length xc] 33))
              have kx2 := hT.blk (Blk.new W #[.int .i64 0, .slice xA xbs.length xc] 33)
              have kp2 := hT.blk ((KPz.out.belowW hI.bel).alloc (.cells #[.int .i64 0, .slice xA xbs.length xc] 33))
              have hlz : Wz.heap.size + 1 ≤ l := Nat.le_trans HKA.out.2 hl1
              have hbz2 : Below Wz.heap.size Wz W2 := (bthen hI.bel hal).grown hT.grown (by have := hI.bel.size; simp; omega) (fun k he => by cases he; omega)
              have hR2 : Rd kb W2 (.slice xA xbs.length xc) xbs := n_rd (Kd.R_N (hT.R (Kd.R_below hG3 hal)))
              have hP2 := Rd.below HPz.out hbz2
              have c1 := byte_string hR2
              have c2 := byte_string hP2
              have cx0 : W2.cell? ⟨W.heap.size, 0, none⟩ = some (.int .i64 0) := kx2.cell.1 0
              have cx1 : W2.cell? ⟨W.heap.size, 1, none⟩ = some (.slice xA xbs.length xc) := kx2.cell.1 1
              have cp0 : W2.cell? ⟨w5.heap.size, 0, none⟩ = some (.slice A5 xbs.length c5) := kp2.cell.1 0
              have HR2 := Lib.hid hR2
              have hxl : xbs.length ≤ 4096 := by have := HPL.out; omega
              clear hG2 hG3 hR2 hP2
              gi_wp2
              refine ⟨trivial, (CallsIn.inRound l (callsIn_wide.2 (bare_any _ 0 xbs W2 HR2.out (by omega) (by omega) (by omega)))).mono ?_⟩
              rintro e w3 ⟨rfl, hb3⟩
              rw [Pl.bare_put HO.out]
              have kn3 := kn2.belowW hb3
              obtain ⟨n0, n1⟩ := kn3.cell
              have n00 : w3.cell? ⟨Wz.heap.size, 0, none⟩ = some (.int .i64 0) := n0 0
              have n10 : w3.frozen? ⟨Wz.heap.size, 0, none⟩ = false := n1 0
              gi_wp2
              have hsA : Wz.heap.size ≤ wA.heap.size := HZA.out.size
              have hsW : wA.heap.size ≤ W.heap.size := by omega
              have hs2 : W2.heap.size = W.heap.size + 1 := by
                obtain ⟨o9, rfl⟩ := hT.eq
                simp
              have hB2 : Below wA.heap.size W W2 := (hal.mono hsW).grown hT.grown (by simp; omega) (fun k he => by cases he; omega)
              have hB3 : Below wA.heap.size W w3 := hB2.trans (hb3.mono (by omega))
              have hB3z : Below Wz.heap.size W w3 := hB3.mono hsA
              have hnz : Wn.heap.size ≠ Wz.heap.size := by have h1 := HKA.out.2; have h2 := HZn.out.size; have h3 := HNz.out; omega
              refine ⟨(KeepsOthers.of_grownBy (grown_of_below hb3 none) (fun j o h => by cases h)).trans (KeepsOthers.setCell _ _ _), ⟨hB3z.setCell (p := ⟨Wz.heap.size, 0, none⟩) (Nat.le_refl _) _, fun u hu => ?_⟩, ⟨?_, (bthen hbz2 hb3).setCell (p := ⟨Wz.heap.size, 0, none⟩) (Nat.le_refl _) _⟩⟩
              · exact (World.cell?_of_block (Below.heap_setCell w3 ⟨Wz.heap.size, 0, none⟩ _ Wn.heap.size hnz)).trans ((hB3.cell (p := ⟨Wn.heap.size, 0, none⟩) HFA.out.1.lt).trans hu)
              · exact kn3.set (cs' := #[.int .i64 1]) 0 (.int .i64 1) rfl
          case after =>
            rintro e ac W ⟨rfl, D, hD, rfl, hK, hI⟩
            have KN2 : Blk W Wz.heap.size #[.int .i64 1] 3 := hI.n
            have kn0 : W.cell? ⟨Wz.heap.size, 0, none⟩ = some (.int .i64 1) := KN2.cell.1 0
            have KR := Kz.out.belowW hI.bel
            have HLW := Lib.hid (Rd.below HLz.out hI.bel)
            have HQW := Lib.hid (Rd.below HQz.out hI.bel)
            have HBW2 := Lib.hid (bthen HBz.out hI.bel)
            have hDW : D < W.heap.size := (Array.getElem?_eq_some_iff.1 hK).1
            have hDr : D ≠ w.heap.size := by have h1 := HZA.out.size; have h2 := Kz.out.lt; omega
            have HDr := Lib.hid hDr
            have HKD := Lib.hid hK
            clear hK hI hDr
            go_wp2_with fail
            refine (sameAll_any _ _ (Pl.want a' ts') W HLW.out HQW.out).mono ?_
            rintro e w9 ⟨rfl, hb9⟩
            have K9 := KR.belowW hb9
            obtain ⟨k0, k1⟩ := K9.cell
            have k00 : w9.cell? ⟨w.heap.size, 0, none⟩ = some (.bool false) := k0 0
            have k10 : w9.frozen? ⟨w.heap.size, 0, none⟩ = false := k1 0
            have HD9 := Lib.hid ((hb9.block D hDW).trans HKD.out)
            have HB9 := Lib.hid (bthen HBW2.out hb9)
            clear k0 k1 hb9
            go_wp2_with fail
            have hK' := (KeepsOthers.setCell w9 ⟨w.heap.size, 0, none⟩ (.bool true)).same D _ HD9.out rfl
            refine ⟨by simp, .inl ⟨_, _, rfl, run_takeDeferred hK', ?_⟩⟩
            have kr := (K9.set (cs' := #[.bool true]) 0 (.bool true) rfl).grown (grownBy_putObj' _ D (.deferred none)) (fun he => by cases he; exact HDr.out rfl)
            have er := kr.cell.1 0
            have hbW := (HB9.out.setCell (p := ⟨w.heap.size, 0, none⟩) (Nat.le_refl _) (.bool true)).grown (grownBy_putObj' _ D (.deferred none)) (by simpa using HB9.out.size) (fun k he => by cases he; have h1 := HZA.out.size; have h2 := Kz.out.lt; omega)
            exact ⟨.bool true, by simp [results, Tryd.results4, go_sem, er], rfl, hbW⟩
        · have hl0 : ¬ ((L.length : Int) = 0) := by
            rw [hLn]
            intro h
            exact h0 (List.eq_nil_of_length_eq_zero (by omega))
          have hl0b : ((L.length : Int) == 0) = false := by rw [beq_eq_false_iff_ne]; exact hl0
          go_upto_region 14 with fail
          refine wp_at fun Wz hWz => ?_
          have hbz : Below wr.heap.size wr Wz := by rw [← hWz]; exact Below.refl _ _
          have HQz := Lib.hid (show Rd kItem Wz (.slice A9 ts'.length c9) (Pl.want a' ts') by
            rw [← hLn, show Pl.want a' ts' = L by rw [Pl.want, if_neg h0]; exact HLE.out, ← hWz]
            exact HRW.out)
          clear hWz
          have HBz := Lib.hid (bthen HBW.out hbz)
          have HLz := Lib.hid (Rd.below HR7w.out hbz)
          have HPz := Lib.hid (Rd.below HP7w.out hbz)
          have KPz := Lib.hid (KP7w.out.belowW hbz)
          have Kz := Lib.hid (K7w.out.belowW hbz)
          clear hbz
          go_upto_region 15 with fail
          refine wp_at fun Wn hWn => ?_
          have hbn : Below Wz.heap.size Wz Wn := by rw [← hWn]; exact below_alloc (Below.refl _ _) _
          have KN : Blk Wn Wz.heap.size #[.int .i64 0] 3 := by rw [← hWn]; exact Blk.new _ _ _
          have kpn : Wn.cell? ⟨w5.heap.size, 0, none⟩ = some (.slice A5 p.length c5) := (KPz.out.belowW hbn).cell.1 0
          have HPn := Lib.hid (Rd.below HPz.out hbn)
          have HBn := Lib.hid (bthen HBz.out hbn)
          have HZn := Lib.hid hbn
          have HNz := Lib.hid KN.lt
          clear hWn hbn
          go_wp2_with fail
          refine (all_any _ p Wn HPn.out).mono ?_
          rintro e wA ⟨rfl, hwA⟩
          have hbA : Below Wn.heap.size Wn wA := by rw [hwA]; exact below_alloc (Below.refl _ _) _
          have HFA := Lib.hid (show Blk wA Wn.heap.size #[.slice A5 p.length c5] 22 ∧ Below Wn.heap.size Wn wA from ⟨by rw [hwA]; exact Blk.new _ _ _, hbA⟩)
          have HKA := Lib.hid (show Blk wA Wz.heap.size #[.int .i64 0] 3 ∧ Wz.heap.size + 1 ≤ wA.heap.size from ⟨KN.belowW hbA, (KN.belowW hbA).lt⟩)
          have HPA := Lib.hid (Rd.below HPn.out hbA)
          have HZA := Lib.hid (bthen HZn.out hbA)
          clear hwA hbA kpn KN
          have hnil : ∀ (cap : Array Value) (W : World), (binOp .eql 37 (.func (.func 20) #[] cap) Value.nilFunc).run Tryd.prog W = .ok (.bool false) W := fun cap W => by kernel_rfl
          go_wp2_with fail
          refine back_mid (Wz := Wz) ?range ?after
          case range =>
            refine range_seq rfl (by omega) (gf := 20) (lb := #[.pointer (some ⟨Wn.heap.size, 0, none⟩)]) rfl trivial (enters_of Tryd.func20 (by kernel_rfl) rfl)
              (all1_seq 8 (by omega) Wn.heap.size (.slice A5 p.length c5) p (by have := HPL.out; omega) Wz wA HZA.out HFA.out.1.lt (HFA.out.1.cell.1 0) HPz.out) (fun h k => ⟨h.1.trans k.1, fun u hu => k.2 u (h.2 u hu)⟩) (fun W l o o' hl h hc hw => ⟨belowK_b HZA.out.size W l o o' hl h hc hw, fun u hu => cell_kept hu (grownBy_putObj' W l o') (fun r e => by cases e; exact ⟨o, h, hc⟩)⟩) (fun _ => rfl)
              (BackI Wz) (fun _ _ _ => False) (backI_own Wz _ HKA.out.2) (fun _ _ _ _ _ h _ _ => h) ⟨HKA.out.1, HZA.out⟩ ?round ?done ?stop
            case stop => exact fun D c pre W _ _ h _ => h.elim
            case done =>
              intro D xs W hD hS hI hK
              refine ⟨rfl, D, hD, rfl, hK, ?_⟩
              rw [Pl.lines_put HO.out] at hS
              have hxl : xs.length = 1 := by have := congrArg List.length hS; simpa using this
              exact ⟨by have := hI.n; rw [hxl] at this; exact this, hI.bel⟩
            case round =>
              intro l pre x W hl1 hl2 hI hG
              obtain ⟨hG1, ⟨rest, hG2⟩, hG3⟩ := hG
              rw [Pl.lines_put HO.out] at hG2
              have hpre : pre = [] := by
                rcases pre with _ | ⟨y, ys⟩
                · rfl
                · have := congrArg List.length hG2
                  simp at this
              subst hpre
              obtain ⟨xi, xat, xbs, xA, xc⟩ := x
              have hx : xat = 0 ∧ xbs = p := by
                have h9 : LineX.line ⟨xi, xat, xbs, xA, xc⟩ = (0, p) := by
                  simp only [List.nil_append, List.map_cons, List.map_nil, List.cons_append, List.cons.injEq] at hG2
                  exact hG2.1
                exact ⟨congrArg Prod.fst h9, congrArg Prod.snd h9⟩
              simp only at hG1 hG3
              have hxi : xi = 0 := by simpa using hG1
              have HXX := Lib.hid (⟨hx.1, hx.2, hxi⟩ : xat = 0 ∧ xbs = p ∧ xi = 0)
              clear hx hxi hG1
              dsimp only [LineX.encs]
              gi_wp2
              obtain ⟨rfl, rfl, rfl⟩ := HXX.out
              refine ⟨KeepsOthers.alloc _ _, fun W2 hT => ?_⟩
              have hal := below_alloc (Below.refl W.heap.size W) (.cells #[.int .i64 0, .slice xA xbs.length xc] 33)
              have kn2 := hT.blk (hI.n.alloc (.cells #[.int .i64 0, .slice xA xbs.length xc] 33))
              have kx2 := hT.blk (Blk.new W #[.int .i64 0, .slice xA xbs.length xc] 33)
              have kp2 := hT.blk ((KPz.out.belowW hI.bel).alloc (.cells #[.int .i64 0, .slice xA xbs.length xc] 33))
              have hlz : Wz.heap.size + 1 ≤ l := Nat.le_trans HKA.out.2 hl1
              have hbz2 : Below Wz.heap.size Wz W2 := (bthen hI.bel hal).grown hT.grown (by have := hI.bel.size; simp; omega) (fun k he => by cases he; omega)
              have hR2 : Rd kb W2 (.slice xA xbs.length xc) xbs := n_rd (Kd.R_N (hT.R (Kd.R_below hG3 hal)))
              have hP2 := Rd.below HPz.out hbz2
              have c1 := byte_string hR2
              have c2 := byte_string hP2
              have cx0 : W2.cell? ⟨W.heap.size, 0, none⟩ = some (.int .i64 0) := kx2.cell.1 0
              have cx1 : W2.cell? ⟨W.heap.size, 1, none⟩ = some (.slice xA xbs.length xc) := kx2.cell.1 1
              have cp0 : W2.cell? ⟨w5.heap.size, 0, none⟩ = some (.slice A5 xbs.length c5) := kp2.cell.1 0
              have HR2 := Lib.hid hR2
              have hxl : xbs.length ≤ 4096 := by have := HPL.out; omega
              clear hG2 hG3 hR2 hP2
              gi_wp2
              refine ⟨trivial, (CallsIn.inRound l (callsIn_wide.2 (bare_any _ 0 xbs W2 HR2.out (by omega) (by omega) (by omega)))).mono ?_⟩
              rintro e w3 ⟨rfl, hb3⟩
              rw [Pl.bare_put HO.out]
              have kn3 := kn2.belowW hb3
              obtain ⟨n0, n1⟩ := kn3.cell
              have n00 : w3.cell? ⟨Wz.heap.size, 0, none⟩ = some (.int .i64 0) := n0 0
              have n10 : w3.frozen? ⟨Wz.heap.size, 0, none⟩ = false := n1 0
              gi_wp2
              have hsA : Wz.heap.size ≤ wA.heap.size := HZA.out.size
              have hsW : wA.heap.size ≤ W.heap.size := by omega
              have hs2 : W2.heap.size = W.heap.size + 1 := by
                obtain ⟨o9, rfl⟩ := hT.eq
                simp
              have hB2 : Below wA.heap.size W W2 := (hal.mono hsW).grown hT.grown (by simp; omega) (fun k he => by cases he; omega)
              have hB3 : Below wA.heap.size W w3 := hB2.trans (hb3.mono (by omega))
              have hB3z : Below Wz.heap.size W w3 := hB3.mono hsA
              have hnz : Wn.heap.size ≠ Wz.heap.size := by have h1 := HKA.out.2; have h2 := HZn.out.size; have h3 := HNz.out; omega
              refine ⟨(KeepsOthers.of_grownBy (grown_of_below hb3 none) (fun j o h => by cases h)).trans (KeepsOthers.setCell _ _ _), ⟨hB3z.setCell (p := ⟨Wz.heap.size, 0, none⟩) (Nat.le_refl _) _, fun u hu => ?_⟩, ⟨?_, (bthen hbz2 hb3).setCell (p := ⟨Wz.heap.size, 0, none⟩) (Nat.le_refl _) _⟩⟩
              · exact (World.cell?_of_block (Below.heap_setCell w3 ⟨Wz.heap.size, 0, none⟩ _ Wn.heap.size hnz)).trans ((hB3.cell (p := ⟨Wn.heap.size, 0, none⟩) HFA.out.1.lt).trans hu)
              · exact kn3.set (cs' := #[.int .i64 1]) 0 (.int .i64 1) rfl
          case after =>
            rintro e ac W ⟨rfl, D, hD, rfl, hK, hI⟩
            have KN2 : Blk W Wz.heap.size #[.int .i64 1] 3 := hI.n
            have kn0 : W.cell? ⟨Wz.heap.size, 0, none⟩ = some (.int .i64 1) := KN2.cell.1 0
            have KR := Kz.out.belowW hI.bel
            have HLW := Lib.hid (Rd.below HLz.out hI.bel)
            have HQW := Lib.hid (Rd.below HQz.out hI.bel)
            have HBW2 := Lib.hid (bthen HBz.out hI.bel)
            have hDW : D < W.heap.size := (Array.getElem?_eq_some_iff.1 hK).1
            have hDr : D ≠ w.heap.size := by have h1 := HZA.out.size; have h2 := Kz.out.lt; omega
            have HDr := Lib.hid hDr
            have HKD := Lib.hid hK
            clear hK hI hDr
            go_wp2_with fail
            refine (sameAll_any _ _ (Pl.want a' ts') W HLW.out HQW.out).mono ?_
            rintro e w9 ⟨rfl, hb9⟩
            have K9 := KR.belowW hb9
            obtain ⟨k0, k1⟩ := K9.cell
            have k00 : w9.cell? ⟨w.heap.size, 0, none⟩ = some (.bool false) := k0 0
            have k10 : w9.frozen? ⟨w.heap.size, 0, none⟩ = false := k1 0
            have HD9 := Lib.hid ((hb9.block D hDW).trans HKD.out)
            have HB9 := Lib.hid (bthen HBW2.out hb9)
            clear k0 k1 hb9
            go_wp2_with fail
            have hK' := (KeepsOthers.setCell w9 ⟨w.heap.size, 0, none⟩ (.bool true)).same D _ HD9.out rfl
            refine ⟨by simp, .inl ⟨_, _, rfl, run_takeDeferred hK', ?_⟩⟩
            have kr := (K9.set (cs' := #[.bool true]) 0 (.bool true) rfl).grown (grownBy_putObj' _ D (.deferred none)) (fun he => by cases he; exact HDr.out rfl)
            have er := kr.cell.1 0
            have hbW := (HB9.out.setCell (p := ⟨w.heap.size, 0, none⟩) (Nat.le_refl _) (.bool true)).grown (grownBy_putObj' _ D (.deferred none)) (by simpa using HB9.out.size) (fun k he => by cases he; have h1 := HZA.out.size; have h2 := Kz.out.lt; omega)
            exact ⟨.bool true, by simp [results, Tryd.results4, go_sem, er], rfl, hbW⟩
end Go.Proofs.YtjdcejbblcbjpaaDoor
