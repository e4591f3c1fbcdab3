import Derived.Test.YtfppbkpdpapemaaDoorTaker
import Derived.Test.YtfppbkpdpapemaaDoorStrKit
import Derived.Test.YtfppbkpdpapemaaDoorSeal
import Derived.Test.YtfppbkpdpapemaaDoorNames
import Derived.Laws.ResultCell
import Derived.Deep.RegionLaw
/-! The sheet that bytes are. No program in sight. -/
set_option linter.unusedSimpArgs false
set_option linter.unusedVariables false
namespace Go.Proofs.YtfppbkpdpapemaaDoor.Pl
theorem unfix4 (n : Nat) (h : n < 4294967296) : unfixB (fixB 4 n) = n := by
  rw [unfix_fix]
  have h3 : (256 : Nat) ^ 4 = 4294967296 := by decide
  omega
theorem fix_unfix4 {l : List UInt8} (h : l.length = 4) : fixB 4 (unfixB l) = l := by
  match l, h with
  | [a, b, c, d], _ =>
    have ha := a.toNat_lt
    have hb := b.toNat_lt
    have hc := c.toNat_lt
    have hd := d.toNat_lt
    have e : unfixB [a, b, c, d] = ((a.toNat * 256 + b.toNat) * 256 + c.toNat) * 256 + d.toNat := by simp [unfixB]
    have key : ∀ (i : Nat) (x : UInt8), unfixB [a, b, c, d] / 256 ^ i % 256 = x.toNat → byteAt (unfixB [a, b, c, d]) i = x := fun i x hx => UInt8.toNat_inj.1 (by rw [byteAt_toNat, hx])
    simp only [fixB]
    rw [key 3 a (by rw [e]; simp only [Nat.reducePow]; omega), key 2 b (by rw [e]; simp only [Nat.reducePow]; omega), key 1 c (by rw [e]; simp only [Nat.reducePow]; omega), key 0 d (by rw [e]; simp only [Nat.pow_zero, Nat.div_one]; omega)]
theorem unfix4_lt (l : List UInt8) : unfixB (l.take 4) < 4294967296 := by
  have h := unfixB_lt (l.take 4)
  have h2 : 256 ^ (l.take 4).length ≤ 256 ^ 4 := Nat.pow_le_pow_right (by decide) (by simp; omega)
  have h3 : (256 : Nat) ^ 4 = 4294967296 := by decide
  omega
/-- a Config of its first bytes and its numbers -/
def cfgOf (fmt f : UInt8) (bud fan sha : Int) : Cfg := ⟨fmt, decide (f.toNat % 2 = 1), decide (f.toNat / 2 % 2 = 1), decide (f.toNat / 4 % 2 = 1), decide (f.toNat / 8 % 2 = 1), decide (f.toNat / 16 % 2 = 1), bud, fan, sha⟩
theorem flags_of : ∀ a1 a2 a3 a4 a5 : Bool, let f := (flag a1 1 ||| flag a2 2 ||| flag a3 4 ||| flag a4 8 ||| flag a5 16); f.toNat < 32 ∧ decide (f.toNat % 2 = 1) = a1 ∧ decide (f.toNat / 2 % 2 = 1) = a2 ∧ decide (f.toNat / 4 % 2 = 1) = a3 ∧ decide (f.toNat / 8 % 2 = 1) = a4 ∧ decide (f.toNat / 16 % 2 = 1) = a5 := by decide
theorem of_flags : ∀ k : Fin 32, (flag (decide (k.val % 2 = 1)) 1 ||| flag (decide (k.val / 2 % 2 = 1)) 2 ||| flag (decide (k.val / 4 % 2 = 1)) 4 ||| flag (decide (k.val / 8 % 2 = 1)) 8 ||| flag (decide (k.val / 16 % 2 = 1)) 16) = UInt8.ofNat k.val := by decide
theorem cfgOf_flags (c : Cfg) : cfgOf c.fmt (flags c) c.bud c.fan c.sha = c ∧ (flags c).toNat < 32 := by
  obtain ⟨h0, h1, h2, h3, h4, h5⟩ := flags_of c.num c.skip c.both c.loops c.back
  have e : flags c = (flag c.num 1 ||| flag c.skip 2 ||| flag c.both 4 ||| flag c.loops 8 ||| flag c.back 16) := rfl
  refine ⟨?_, by rw [e]; exact h0⟩
  unfold cfgOf
  rw [e, h1, h2, h3, h4, h5]
theorem flags_cfgOf (fmt f : UInt8) (bud fan sha : Int) (h : f.toNat < 32) : flags (cfgOf fmt f bud fan sha) = f := by
  have := of_flags ⟨f.toNat, h⟩
  simpa [flags, cfgOf] using this
/-- the files that a taker takes -/
def filesT : List (List UInt8) → List UInt8 → Bool → List FileT × List UInt8 × Bool
  | [], b, bad => ([], b, bad)
  | n :: ns, b, bad => ((n, numN b, sumN (numR b)) :: (filesT ns (sumR (numR b)) (sumBad (numR b) (numBad b bad))).1, (filesT ns (sumR (numR b)) (sumBad (numR b) (numBad b bad))).2)
def SumsIn (fs : List FileT) : Prop := ∀ f ∈ fs, 0 ≤ f.2.2 ∧ f.2.2 ≤ 4294967295
theorem num_good {b : List UInt8} {bad : Bool} (h : numBad b bad = false) : bad = false ∧ b = putB (numN b).toNat ++ numR b ∧ 0 ≤ numN b ∧ numN b ≤ 4611686018427387904 := by
  unfold numBad at h
  simp only [Bool.or_eq_false_iff] at h
  obtain ⟨h1, h2⟩ := h
  cases hn : numB b with
  | none => rw [hn] at h2; cases h2
  | some p =>
    obtain ⟨n, r⟩ := p
    obtain ⟨e1, e2⟩ := numB_some hn
    have a1 : numN b = (n : Int) := by simp [numN, hn]
    have a2 : numR b = r := by simp [numR, hn]
    rw [a1, a2]
    exact ⟨h1, by simpa using e1, by omega, by omega⟩
theorem num_put (n : Int) (r : List UInt8) (bad : Bool) (h0 : 0 ≤ n) (h1 : n ≤ 4611686018427387904) : numN (putB n.toNat ++ r) = n ∧ numR (putB n.toNat ++ r) = r ∧ numBad (putB n.toNat ++ r) bad = bad := by
  have h := numB_put n.toNat r (by omega)
  refine ⟨by simp [numN, h]; omega, by simp [numR, h], by simp [numBad, h]⟩
theorem sum_good {b : List UInt8} {bad : Bool} (h : sumBad b bad = false) : bad = false ∧ b = fixB 4 (sumN b).toNat ++ sumR b ∧ 0 ≤ sumN b ∧ sumN b ≤ 4294967295 := by
  unfold sumBad at h
  simp only [Bool.or_eq_false_iff, decide_eq_false_iff_not] at h
  obtain ⟨h1, h2⟩ := h
  have h3 := unfix4_lt b
  have a1 : sumN b = (unfixB (b.take 4) : Int) := by simp [sumN, h2]
  have a2 : sumR b = b.drop 4 := by simp [sumR, h2]
  rw [a1, a2]
  refine ⟨h1, ?_, by omega, by omega⟩
  rw [Int.toNat_natCast, fix_unfix4 (by simp; omega), List.take_append_drop]
theorem sum_fix (n : Int) (r : List UInt8) (bad : Bool) (h0 : 0 ≤ n) (h1 : n ≤ 4294967295) : sumN (fixB 4 n.toNat ++ r) = n ∧ sumR (fixB 4 n.toNat ++ r) = r ∧ sumBad (fixB 4 n.toNat ++ r) bad = bad := by
  have hl : (fixB 4 n.toNat).length = 4 := fixB_len 4 _
  have h4 : ¬ (fixB 4 n.toNat ++ r).length < 4 := by simp [hl]
  have ht : (fixB 4 n.toNat ++ r).take 4 = fixB 4 n.toNat := by rw [List.take_append_of_le_length (by omega), List.take_of_length_le (by omega)]
  have hd : (fixB 4 n.toNat ++ r).drop 4 = r := by rw [List.drop_append_of_le_length (by omega), List.drop_of_length_le (by omega), List.nil_append]
  refine ⟨?_, ?_, ?_⟩
  · rw [sumN, if_neg h4, ht, unfix4 _ (by omega)]; omega
  · rw [sumR, if_neg h4, hd]
  · rw [sumBad, decide_eq_false h4, Bool.or_false]
theorem filesT_put : ∀ (ns : List (List UInt8)) (fs : List FileT) (r : List UInt8) (bad : Bool), filesOk fs ns = true → SumsIn fs → filesT ns (fs.flatMap fileB ++ r) bad = (fs, r, bad)
  | [], [], r, bad, _, _ => rfl
  | [], _ :: _, _, _, h, _ => by cases h
  | _ :: _, [], _, _, h, _ => by cases h
  | n :: ns, f :: fs, r, bad, h, hs => by
    simp only [filesOk, Bool.and_eq_true] at h
    obtain ⟨hf, ht⟩ := h
    obtain ⟨fn, fl, fsm⟩ := f
    simp only [fileOk, Bool.and_eq_true, beq_iff_eq, decide_eq_true_eq] at hf
    obtain ⟨e1, e2, e3⟩ := hf
    obtain ⟨s1, s2⟩ := hs _ (List.mem_cons_self)
    simp only at s1 s2
    obtain ⟨a1, a2, a3⟩ := num_put fl (fixB 4 fsm.toNat ++ (fs.flatMap fileB ++ r)) bad e2 e3
    obtain ⟨b1, b2, b3⟩ := sum_fix fsm (fs.flatMap fileB ++ r) bad s1 s2
    have ih := filesT_put ns fs r bad ht (fun f hf => hs f (List.mem_cons_of_mem _ hf))
    have e : ((fn, fl, fsm) :: fs).flatMap fileB ++ r = putB fl.toNat ++ (fixB 4 fsm.toNat ++ (fs.flatMap fileB ++ r)) := by simp [fileB]
    rw [e]
    simp only [filesT, a1, a2, a3, b1, b2, b3, ih]
    rw [e1]
theorem filesT_good : ∀ (ns : List (List UInt8)) (b : List UInt8) (bad : Bool), (filesT ns b bad).2.2 = false → bad = false ∧ b = (filesT ns b bad).1.flatMap fileB ++ (filesT ns b bad).2.1 ∧ filesOk (filesT ns b bad).1 ns = true ∧ SumsIn (filesT ns b bad).1
  | [], b, bad, h => ⟨h, rfl, rfl, fun f hf => by simp [filesT] at hf⟩
  | n :: ns, b, bad, h => by
    simp only [filesT] at h
    obtain ⟨i1, i2, i3, i4⟩ := filesT_good ns _ _ h
    obtain ⟨s1, s2, s3, s4⟩ := sum_good i1
    obtain ⟨n1, n2, n3, n4⟩ := num_good s1
    refine ⟨n1, ?_, ?_, ?_⟩
    · simp only [filesT, List.flatMap_cons, fileB]
      rw [List.append_assoc, List.append_assoc, ← i2, ← s2, ← n2]
    · simp only [filesT, filesOk, fileOk, i3, Bool.and_true, Bool.and_eq_true, beq_self_eq_true, true_and, decide_eq_true_eq]
      exact ⟨n3, n4⟩
    · intro f hf
      simp only [filesT, List.mem_cons] at hf
      rcases hf with rfl | hf
      · exact ⟨s3, s4⟩
      · exact i4 f hf
theorem filesT_len : ∀ (ns : List (List UInt8)) (b : List UInt8) (bad : Bool), (filesT ns b bad).1.length = ns.length
  | [], _, _ => rfl
  | n :: ns, b, bad => by simp [filesT, filesT_len ns]
/-- what a taker takes, behind a sheet's first two bytes -/
def sheetT (fmt f : UInt8) (b : List UInt8) : Sheet × List UInt8 × Bool :=
  (⟨cfgOf fmt f (numN b) (numN (numR b)) (numN (numR (numR b))), numN (numR (numR (numR b))), numN (numR (numR (numR (numR b)))),
    (filesT (names (cfgOf fmt f (numN b) (numN (numR b)) (numN (numR (numR b))))) (numR (numR (numR (numR (numR b))))) (numBad (numR (numR (numR (numR b)))) (numBad (numR (numR (numR b))) (numBad (numR (numR b)) (numBad (numR b) (numBad b false)))))).1⟩,
   (filesT (names (cfgOf fmt f (numN b) (numN (numR b)) (numN (numR (numR b))))) (numR (numR (numR (numR (numR b))))) (numBad (numR (numR (numR (numR b)))) (numBad (numR (numR (numR b))) (numBad (numR (numR b)) (numBad (numR b) (numBad b false)))))).2)
/-- the sheet that bytes are, their sum taken off -/
def implS : List UInt8 → Option Sheet
  | fmt :: f :: b => if f.toNat < 32 ∧ (sheetT fmt f b).2.2 = false ∧ (sheetT fmt f b).2.1 = [] ∧ names (sheetT fmt f b).1.c ≠ [] ∧ (sheetT fmt f b).1.lab ≤ 4294967296 then some (sheetT fmt f b).1 else none
  | _ => none
theorem names_ne {c : Cfg} (h : names c ≠ []) : right c = true := by
  rcases hr : right c with _ | _
  · exact absurd (names_wrong hr) h
  · rfl
theorem ne_names {c : Cfg} (h : right c = true) : names c ≠ [] := by
  rw [names_right h]
  simp [namesOf]
theorem sheetB_cons (s : Sheet) : sheetB s = s.c.fmt :: flags s.c :: (putB s.c.bud.toNat ++ (putB s.c.fan.toNat ++ (putB s.c.sha.toNat ++ (putB s.lab.toNat ++ (putB s.edg.toNat ++ (s.files.flatMap fileB ++ [])))))) := by
  simp [sheetB, confB]
theorem implS_put (s : Sheet) (h : sheetOk s = true) (hs : SumsIn s.files) : implS (sheetB s) = some s := by
  obtain ⟨h1, h2, h3, h4, h5, h6⟩ := (sheetOk_iff s).1 h
  obtain ⟨c1, c2, c3, c4, c5, c6⟩ := right_bounds h1
  obtain ⟨k1, k2⟩ := cfgOf_flags s.c
  rw [sheetB_cons]
  have n1 := num_put s.c.bud (putB s.c.fan.toNat ++ (putB s.c.sha.toNat ++ (putB s.lab.toNat ++ (putB s.edg.toNat ++ (s.files.flatMap fileB ++ []))))) false (by omega) (by omega)
  have n2 := num_put s.c.fan (putB s.c.sha.toNat ++ (putB s.lab.toNat ++ (putB s.edg.toNat ++ (s.files.flatMap fileB ++ [])))) false (by omega) (by omega)
  have n3 := num_put s.c.sha (putB s.lab.toNat ++ (putB s.edg.toNat ++ (s.files.flatMap fileB ++ []))) false (by omega) (by omega)
  have n4 := num_put s.lab (putB s.edg.toNat ++ (s.files.flatMap fileB ++ [])) false (by omega) (by omega)
  have n5 := num_put s.edg (s.files.flatMap fileB ++ []) false (by omega) (by omega)
  have f1 := filesT_put (names s.c) s.files [] false h6 hs
  have e : sheetT s.c.fmt (flags s.c) (putB s.c.bud.toNat ++ (putB s.c.fan.toNat ++ (putB s.c.sha.toNat ++ (putB s.lab.toNat ++ (putB s.edg.toNat ++ (s.files.flatMap fileB ++ [])))))) = (s, [], false) := by
    simp only [sheetT, n1, n2, n3, n4, n5, k1, f1]
  simp only [implS, e]
  rw [if_pos ⟨k2, trivial, trivial, ne_names h1, h3⟩]
theorem implS_some {x : List UInt8} {s : Sheet} (h : implS x = some s) : sheetOk s = true ∧ SumsIn s.files ∧ sheetB s = x := by
  match x, h with
  | fmt :: f :: b, h =>
    simp only [implS] at h
    split at h
    · rename_i hh
      obtain ⟨h1, h2, h3, h4, h5⟩ := hh
      injection h with h
      have hr := names_ne h4
      obtain ⟨f1, f2, f3, f4⟩ := filesT_good _ _ _ (show (filesT _ _ _).2.2 = false from h2)
      obtain ⟨a5, b5, c5, d5⟩ := num_good f1
      obtain ⟨a4, b4, c4, d4⟩ := num_good a5
      obtain ⟨a3, b3, c3, d3⟩ := num_good a4
      obtain ⟨a2, b2, c2, d2⟩ := num_good a3
      obtain ⟨_, b1, c1, d1⟩ := num_good a2
      have e3 : (filesT (names (cfgOf fmt f (numN b) (numN (numR b)) (numN (numR (numR b))))) (numR (numR (numR (numR (numR b))))) (numBad (numR (numR (numR (numR b)))) (numBad (numR (numR (numR b))) (numBad (numR (numR b)) (numBad (numR b) (numBad b false)))))).2.1 = [] := h3
      rw [e3] at f2
      subst h
      refine ⟨(sheetOk_iff _).2 ⟨hr, c4, h5, c5, d5, f3⟩, f4, ?_⟩
      rw [sheetB_cons]
      show fmt :: flags (cfgOf fmt f _ _ _) :: _ = _
      rw [flags_cfgOf _ _ _ _ _ h1]
      congr 2
      simp only [sheetT, cfgOf]
      simp only [sheetT, cfgOf] at f2
      rw [← f2, ← b5, ← b4, ← b3, ← b2, ← b1]
    · cases h
/-- the sheet that bytes are -/
def takeS (b : List UInt8) : Option Sheet := (unB b).bind implS
theorem takeS_put (s : Sheet) (h : sheetOk s = true) (hs : SumsIn s.files) : takeS (sealB (sheetB s)) = some s := by
  rw [takeS, unB_seal]
  exact implS_put s h hs
theorem takeS_some {b : List UInt8} {s : Sheet} (h : takeS b = some s) : sheetOk s = true ∧ SumsIn s.files ∧ sealB (sheetB s) = b := by
  rw [takeS] at h
  obtain ⟨x, hx, hi⟩ := Option.bind_eq_some_iff.1 h
  obtain ⟨h1, h2, h3⟩ := implS_some hi
  exact ⟨h1, h2, by rw [h3]; exact (unB_some hx).1⟩
/-- the reference's files -/
def rfilesT : List (List UInt8) → List UInt8 → Option (List FileT)
  | [], _ => some []
  | n :: ns, b => if (rnumR b).length < 4 then none else (rfilesT ns ((rnumR b).drop 4)).map fun r => (n, rnumN b, (unfixB ((rnumR b).take 4) : Int)) :: r
def rsheetT (fmt f : UInt8) (b : List UInt8) : Option Sheet :=
  (rfilesT (names (cfgOf fmt f (rnumN b) (rnumN (rnumR b)) (rnumN (rnumR (rnumR b))))) (rnumR (rnumR (rnumR (rnumR (rnumR b)))))).map fun r =>
    ⟨cfgOf fmt f (rnumN b) (rnumN (rnumR b)) (rnumN (rnumR (rnumR b))), rnumN (rnumR (rnumR (rnumR b))), rnumN (rnumR (rnumR (rnumR (rnumR b)))), r⟩
def refS : List UInt8 → Option Sheet
  | fmt :: f :: b => rsheetT fmt f b
  | _ => none
theorem rnum_put (n : Int) (r : List UInt8) (h0 : 0 ≤ n) (h1 : n ≤ 4611686018427387904) : rnumN (putB n.toNat ++ r) = n ∧ rnumR (putB n.toNat ++ r) = r := by
  have h := numB_put n.toNat r (by omega)
  refine ⟨by simp [rnumN, h]; omega, by simp [rnumR, h]⟩
theorem rfilesT_put : ∀ (ns : List (List UInt8)) (fs : List FileT) (r : List UInt8), filesOk fs ns = true → SumsIn fs → rfilesT ns (fs.flatMap fileB ++ r) = some fs
  | [], [], r, _, _ => rfl
  | [], _ :: _, _, h, _ => by cases h
  | _ :: _, [], _, h, _ => by cases h
  | n :: ns, f :: fs, r, h, hs => by
    simp only [filesOk, Bool.and_eq_true] at h
    obtain ⟨hf, ht⟩ := h
    obtain ⟨fn, fl, fsm⟩ := f
    simp only [fileOk, Bool.and_eq_true, beq_iff_eq, decide_eq_true_eq] at hf
    obtain ⟨e1, e2, e3⟩ := hf
    obtain ⟨s1, s2⟩ := hs _ (List.mem_cons_self)
    simp only at s1 s2
    obtain ⟨a1, a2⟩ := rnum_put fl (fixB 4 fsm.toNat ++ (fs.flatMap fileB ++ r)) e2 e3
    have hl : (fixB 4 fsm.toNat).length = 4 := fixB_len 4 _
    have h4 : ¬ (fixB 4 fsm.toNat ++ (fs.flatMap fileB ++ r)).length < 4 := by rw [List.length_append]; omega
    have ht4 : (fixB 4 fsm.toNat ++ (fs.flatMap fileB ++ r)).take 4 = fixB 4 fsm.toNat := by rw [List.take_append_of_le_length (by omega), List.take_of_length_le (by omega)]
    have hd4 : (fixB 4 fsm.toNat ++ (fs.flatMap fileB ++ r)).drop 4 = fs.flatMap fileB ++ r := by rw [List.drop_append_of_le_length (by omega), List.drop_of_length_le (by omega), List.nil_append]
    have ih := rfilesT_put ns fs r ht (fun f hf => hs f (List.mem_cons_of_mem _ hf))
    have e : ((fn, fl, fsm) :: fs).flatMap fileB ++ r = putB fl.toNat ++ (fixB 4 fsm.toNat ++ (fs.flatMap fileB ++ r)) := by simp [fileB]
    rw [e]
    simp only [rfilesT, a1, a2]
    rw [if_neg h4, ht4, hd4, ih, unfix4 _ (by omega)]
    simp only [Option.map_some]
    rw [e1, show ((fsm.toNat : Nat) : Int) = fsm by omega]
theorem rfilesT_in : ∀ (ns : List (List UInt8)) (b : List UInt8) (fs : List FileT), rfilesT ns b = some fs → SumsIn fs ∧ fs.length = ns.length
  | [], b, fs, h => by
    simp only [rfilesT, Option.some.injEq] at h
    subst h
    exact ⟨fun f hf => by simp at hf, rfl⟩
  | n :: ns, b, fs, h => by
    simp only [rfilesT] at h
    split at h
    · cases h
    · obtain ⟨r, hr, he⟩ := Option.map_eq_some_iff.1 h
      obtain ⟨i1, i2⟩ := rfilesT_in ns _ r hr
      subst he
      refine ⟨fun f hf => ?_, by simp [i2]⟩
      simp only [List.mem_cons] at hf
      rcases hf with rfl | hf
      · have := unfix4_lt (rnumR b)
        exact ⟨by simp only; omega, by simp only; omega⟩
      · exact i1 f hf
theorem refS_put (s : Sheet) (h : sheetOk s = true) (hs : SumsIn s.files) : refS (sheetB s) = some s := by
  obtain ⟨h1, h2, h3, h4, h5, h6⟩ := (sheetOk_iff s).1 h
  obtain ⟨c1, c2, c3, c4, c5, c6⟩ := right_bounds h1
  obtain ⟨k1, k2⟩ := cfgOf_flags s.c
  rw [sheetB_cons]
  have n1 := rnum_put s.c.bud (putB s.c.fan.toNat ++ (putB s.c.sha.toNat ++ (putB s.lab.toNat ++ (putB s.edg.toNat ++ (s.files.flatMap fileB ++ []))))) (by omega) (by omega)
  have n2 := rnum_put s.c.fan (putB s.c.sha.toNat ++ (putB s.lab.toNat ++ (putB s.edg.toNat ++ (s.files.flatMap fileB ++ [])))) (by omega) (by omega)
  have n3 := rnum_put s.c.sha (putB s.lab.toNat ++ (putB s.edg.toNat ++ (s.files.flatMap fileB ++ []))) (by omega) (by omega)
  have n4 := rnum_put s.lab (putB s.edg.toNat ++ (s.files.flatMap fileB ++ [])) (by omega) (by omega)
  have n5 := rnum_put s.edg (s.files.flatMap fileB ++ []) (by omega) (by omega)
  have f1 := rfilesT_put (names s.c) s.files [] h6 hs
  simp only [refS, rsheetT, n1, n2, n3, n4, n5, k1, f1, Option.map_some]
theorem refS_in {x : List UInt8} {s : Sheet} (h : refS x = some s) : SumsIn s.files ∧ s.files.length = (names s.c).length := by
  match x, h with
  | fmt :: f :: b, h =>
    simp only [refS, rsheetT] at h
    obtain ⟨r, hr, he⟩ := Option.map_eq_some_iff.1 h
    subst he
    exact rfilesT_in _ _ _ hr
/-- the reference's answer is the same -/
theorem ref_take (b : List UInt8) : (∀ s, takeS b = some s → ∃ x, unB b = some x ∧ refS x = some s ∧ sheetOk s = true ∧ sealB (sheetB s) = b) ∧ (takeS b = none → ∀ x s, unB b = some x → refS x = some s → ¬ (sheetOk s = true ∧ sealB (sheetB s) = b)) := by
  refine ⟨fun s h => ?_, fun h x s hx hr hh => ?_⟩
  · obtain ⟨h1, h2, h3⟩ := takeS_some h
    exact ⟨sheetB s, by rw [← h3, unB_seal], refS_put s h1 h2, h1, h3⟩
  · have := takeS_put s hh.1 (refS_in hr).1
    rw [hh.2, h] at this
    cases this
end Go.Proofs.YtfppbkpdpapemaaDoor.Pl
/-! sheet.Take. -/
set_option linter.unusedSimpArgs false
set_option linter.unusedVariables false
namespace Go.Proofs.YtfppbkpdpapemaaDoor
open Go.RowKit Go.Proofs.YtfppbkpdpapemaaDoorW.PrintWords Go.Proofs.YtfppbkpdpapemaaDoorW.PrintLast Go.Proofs.YtfppbkpdpapemaaDoorW.PrintMore

def Pl.zeroS : Pl.Sheet := ⟨⟨0, false, false, false, false, false, 0, 0, 0⟩, 0, 0, []⟩
/-- What takes a sheet from bytes answers. -/
def TakeSh (b : List UInt8) (w : World) (e : Ending) (w' : World) : Prop := ∃ v' : Value, e = .returned (.tuple #[sheetV ((Pl.takeS b).getD Pl.zeroS) v', .int .i64 (if (Pl.takeS b).isSome then 0 else 6)]) ∧ Rd kFile w' v' ((Pl.takeS b).getD Pl.zeroS).files ∧ Below w.heap.size w w'

theorem results_cell_tmp_row {fn : Func} {p u : Tmp} {ty : TypeId} {P : Program} (h : fn.results = #[.cell p ty, .tmp u]) (tmps : Array Value) (w : World) (g : Nat) (t : TypeId) (cs : Array Value) (fr : Nat × Nat) (d : TypeDesc)
    (hp : tmps.getD p undef = .pointer (some ⟨g, 0, none⟩)) (hg : w.heap[g]? = some (.cells cs t fr))
    (hu : P.underlying ty = some d) (hd : (match d with | .struct _ | .array _ _ => true | _ => false) = true) (hi : (P.info? ty).map (·.size) = some cs.size) :
    (results fn tmps).run P w = .ok (.tuple #[.agg cs, tmps.getD u undef]) w := by
  rw [results_cell_tmp h, hp]
  have e := run_loadVar_row (P := P) w g t ty cs fr d hg hu (by cases d <;> simp_all) hi
  simp [asAddr, e]
theorem sizeSheet : (Tryd.prog.info? 38).map (·.size) = some 12 := by kernel_rfl
abbrev zeroL : List Value := [.int .u8 0, .bool false, .bool false, .bool false, .bool false, .bool false, .int .i64 0, .int .i64 0, .int .i64 0, .int .i64 0, .int .i64 0, .slice none 0 0]
abbrev zeroC : Array Value := sheetC Pl.zeroS (.slice none 0 0)
theorem takesh_no {b : List UInt8} {w w' : World} (h : Pl.takeS b = none) (hb : Below w.heap.size w w') : TakeSh b w (.returned (.tuple #[.agg zeroC, .int .i64 6])) w' :=
  ⟨.slice none 0 0, by rw [h]; rfl, by rw [h]; exact Rd.nil _ _, hb⟩
theorem Put.grow {W W1 : World} {g : Nat} (h : Put W W1 g) : W.grownBy W1 (some g) := ⟨h.os, h.tape, h.output, Nat.le_of_eq h.size.symm, fun k _ hne => h.block k (fun he => hne (by rw [he]))⟩

theorem flags_and (f : UInt8) : (bits .and .u8 (f.toNat : Int) 1 != 0) = decide (f.toNat % 2 = 1) ∧ (bits .and .u8 (f.toNat : Int) 2 != 0) = decide (f.toNat / 2 % 2 = 1) ∧ (bits .and .u8 (f.toNat : Int) 4 != 0) = decide (f.toNat / 4 % 2 = 1) ∧ (bits .and .u8 (f.toNat : Int) 8 != 0) = decide (f.toNat / 8 % 2 = 1) ∧ (bits .and .u8 (f.toNat : Int) 16 != 0) = decide (f.toNat / 16 % 2 = 1) := by
  have key : ∀ k : Fin 256, (bits .and .u8 (k.val : Int) 1 != 0) = decide (k.val % 2 = 1) ∧ (bits .and .u8 (k.val : Int) 2 != 0) = decide (k.val / 2 % 2 = 1) ∧ (bits .and .u8 (k.val : Int) 4 != 0) = decide (k.val / 4 % 2 = 1) ∧ (bits .and .u8 (k.val : Int) 8 != 0) = decide (k.val / 8 % 2 = 1) ∧ (bits .and .u8 (k.val : Int) 16 != 0) = decide (k.val / 16 % 2 = 1) := by decide +kernel
  exact key ⟨f.toNat, f.toNat_lt⟩
theorem file_FK {w : World} {ok : Nat → Prop} (n : List UInt8) (l s : Int) : Kd.FK kFile w ok (n, l, s) [strV n, .int .i64 l, .int .u32 s] :=
  fun _ _ => ⟨[strV n], [.int .i64 l, .int .u32 s], rfl, rfl, [.int .i64 l], [.int .u32 s], rfl, rfl, rfl⟩
/-- A piece of code that ends in one state, whatever order it took. -/
theorem wp_tail {P : Program} {c : Code} {Q : Exit → Act → World → Prop} {a : Act} {W : World} (T : Option Addr → Nat → World → Act) (S : Option Addr → Nat → World → Prop)
    (h1 : c.wp P (fun e ac W => match e with | .normal => ∃ A c, (∃ X, ac = T A c X) ∧ S A c W | _ => False) a W) (h2 : ∀ A c X w, S A c w → Q .normal (T A c X) w) : c.wp P Q a W :=
  Code.wp_mono (by rintro e ac W h; cases e <;> first | exact h.elim | (obtain ⟨A, c, ⟨X, rfl⟩, h⟩ := h; exact h2 A c X _ h)) h1
theorem names_le (c : Pl.Cfg) : (Pl.names c).length ≤ 40 := by
  rcases hr : Pl.right c with _ | _
  · rw [Pl.names_wrong hr]; simp
  · have hb := Pl.right_bounds hr
    rw [Pl.names_right hr]
    simp only [Pl.namesOf]
    split <;> simp <;> omega
/-- What is held while a sheet is taken: in block g the sheet, in g + 1 the taker, from B on its files. -/
structure StT (w W : World) (g B : Nat) (v : Value) (s : Pl.Sheet) (b : List UInt8) (bad : Bool) : Prop where
  kz : Blk W w.heap.size zeroC 38
  k7 : Blk W g (sheetC s v) 38
  t : Tk W (fun k => k = g ∨ k = g + 1 ∨ v.ownBlock = some k) (g + 1) b bad
  own : Own kFile 57 W B v s.files
  hb : Below w.heap.size w W
  lt : w.heap.size < g
  gB : g + 3 ≤ B
  sz : B ≤ W.heap.size
theorem StT.num {w W W1 : World} {g B : Nat} {v : Value} {s : Pl.Sheet} {b b1 : List UInt8} {bad bad1 : Bool} (h : StT w W g B v s b bad) (ht : Tk W1 (fun k => k = g ∨ k = g + 1 ∨ v.ownBlock = some k) (g + 1) b1 bad1) (hg : W.grownBy W1 (some (g + 1))) : StT w W1 g B v s b1 bad1 :=
  ⟨h.kz.grown hg (fun he => by injection he with he; have := h.lt; omega), h.k7.grown hg (fun he => by injection he with he; omega), ht, Kd.N_step h.own (fun k hk hl => hg.block k hl (fun he => by injection he with he; have := h.gB; omega)), h.hb.grown hg h.hb.size (fun k he => by injection he with he; have := h.lt; omega), h.lt, h.gB, Nat.le_trans h.sz hg.size⟩
theorem StT.put {w W : World} {g B : Nat} {v : Value} {s : Pl.Sheet} {b : List UInt8} {bad : Bool} (h : StT w W g B v s b bad) (i : Nat) (u : Value) (s1 : Pl.Sheet) (he : (sheetC s v).setIfInBounds i u = sheetC s1 v) (hf : s1.files = s.files) : StT w (W.setCell ⟨g, i, none⟩ u) g B v s1 b bad :=
  ⟨h.kz.far (by have := h.lt; show w.heap.size ≠ g; omega) u, h.k7.set i u he, h.t.same (by rw [World.size_setCell]; exact Nat.le_refl _) (fun k _ hk => Below.heap_setCell W ⟨g, i, none⟩ u k (fun he => by have he' : k = g := he; rcases hk with h1 | h1; omega; exact h1 (Or.inl he'))), by rw [hf]; exact h.own.far (by have := h.gB; show g < B; omega) u, h.hb.setCell (p := ⟨g, i, none⟩) (Nat.le_of_lt h.lt) u, h.lt, h.gB, by rw [World.size_setCell]; exact h.sz⟩
/-- When others have worked, from a world of its own on; the files' row may be told to lie further up. -/
theorem StT.bel {w W W1 : World} {g B : Nat} {s : Pl.Sheet} {b : List UInt8} {bad : Bool} (h : StT w W g B (.slice none 0 0) s b bad) (hb : Below W.heap.size W W1) (hf : s.files = []) : StT w W1 g W1.heap.size (.slice none 0 0) s b bad :=
  ⟨h.kz.belowW hb, h.k7.belowW hb, h.t.same hb.size (fun k hk _ => hb.block k hk), by rw [hf]; exact Own.nil _ _ _ _, bthen h.hb hb, h.lt, Nat.le_trans h.gB (Nat.le_trans h.sz hb.size), Nat.le_refl _⟩
theorem StT.drew {w W : World} {g B : Nat} {v : Value} {s : Pl.Sheet} {b : List UInt8} {bad : Bool} (h : StT w W g B v s b bad) : StT w W.drew g B v s b bad :=
  ⟨h.kz.drew, h.k7.drew, h.t.same (Nat.le_refl _) (fun _ _ _ => rfl), h.own.drew, h.hb.drew, h.lt, h.gB, h.sz⟩
/-- When a file has been put behind the others. -/
theorem StT.app {w W W1 : World} {g B : Nat} {v v1 : Value} {s : Pl.Sheet} {x : Pl.FileT} {b : List UInt8} {bad : Bool} (h : StT w W g B v s b bad) (ho : Own kFile 57 W1 B v1 (s.files ++ [x])) (hg : W.grownBy W1 v.ownBlock) (hat : v1.ownBlock = v.ownBlock ∨ ∃ b, v1.ownBlock = some b ∧ W.heap.size ≤ b) : StT w (W1.setCell ⟨g, 11, none⟩ v1) g B v1 { s with files := s.files ++ [x] } b bad := by
  have hlo : ∀ k, v.ownBlock = some k → B ≤ k := h.own.1
  have hlt := h.lt
  have hgB := h.gB
  have hsz := h.sz
  refine ⟨(h.kz.grown hg (fun he => by have := hlo _ he.symm; omega)).far (by show w.heap.size ≠ g; omega) _, (h.k7.grown hg (fun he => by have := hlo _ he.symm; omega)).set 11 v1 rfl, ?_, ho.far (by show g < B; omega) _, (h.hb.grown hg h.hb.size (fun k he => by have := hlo _ he; omega)).setCell (p := ⟨g, 11, none⟩) (Nat.le_of_lt hlt) _, hlt, hgB, by rw [World.size_setCell]; exact Nat.le_trans hsz hg.size⟩
  obtain ⟨u, K, hV⟩ := h.t.out
  refine ⟨⟨u, (K.grown hg (fun he => by have := hlo _ he.symm; omega)).far (by show g + 1 ≠ g; omega) _, ?_⟩, Or.inr (Or.inl rfl), fun k hk => ?_⟩
  · refine Kd.V_far ?_ (fun k hk he => ?_) _
    · refine Kd.V_mono (Kd.V_step (Kd.V_bound hV) (fun k hk hl => hg.block k hl (fun he => hk.1 (Or.inr (Or.inr he.symm))))) (ok' := fun k => ¬ (k = g ∨ k = g + 1 ∨ v1.ownBlock = some k)) (fun k hk hs => ?_)
      rcases hs with h1 | h1 | h1
      · exact hk.1 (Or.inl h1)
      · exact hk.1 (Or.inr (Or.inl h1))
      · rcases hat with h2 | ⟨c, h2, h3⟩
        · exact hk.1 (Or.inr (Or.inr (by rw [← h2]; exact h1)))
        · rw [h2] at h1
          injection h1 with h1
          have := hk.2
          omega
    · exact hk (Or.inl he)
  · rw [World.size_setCell]
    have := hg.size
    rcases hk with h1 | h1 | h1
    · omega
    · omega
    · exact ho.lt k h1

set_option maxRecDepth 100000 in
set_option maxHeartbeats 4000000 in
theorem stake_any (v : Value) (b : List UInt8) (w : World) (hv : Rd kb w v b) (hl : b.length ≤ 1048576) : Calls Tryd.prog 18 #[v] w (TakeSh b w) := by
  go_enter Tryd.func18, Tryd.ntmps18
  go_wp2_with fail
  refine calls_at fun W1 hW1 => ?_
  have hb1 : Below w.heap.size w W1 := by rw [← hW1]; exact below_alloc (Below.refl _ _) _
  have K1 : Blk W1 w.heap.size zeroC 38 := by rw [← hW1]; exact Blk.new _ _ _
  clear hW1
  refine (unseal_any v b W1 (Rd.below hv hb1) hl).mono ?_
  rintro e w2 ⟨v2, code, rfl, hcode, ho2, hb2⟩
  have KZ := Lib.hid (K1.belowW hb2)
  have HB2 := Lib.hid (bthen hb1 hb2)
  have hlt2 := (K1.belowW hb2).lt
  have hs12 := hb2.size
  have hlt1 := K1.lt
  obtain ⟨x, hx⟩ : ∃ x, (Pl.unB b).getD [] = x := ⟨_, rfl⟩
  rw [hx] at ho2
  obtain ⟨A2, c2, hv2⟩ := Kd.N_slice ho2
  subst hv2
  have HO2 := Lib.hid ho2
  clear K1 hb1 hb2 ho2
  rcases hun : Pl.unB b with _ | x'
  · have hc : (code != 0) = true := by
      simp only [bne_iff_ne, ne_eq]
      intro h
      have := hcode.1 h
      rw [hun] at this
      cases this
    have HN := Lib.hid (show Pl.takeS b = none by rw [Pl.takeS, hun]; rfl)
    clear hun hcode hx
    go_wp2_with ((with_reducible refine gate_ (.store 38 (.tmp 2) (.tmp 33)) rfl ?_); refine store_blk rfl rfl 38 (.tmp 2) (.tmp 33) rfl w.heap.size 0 zeroC zeroC 38 (.agg zeroC) zeroL rfl rfl rfl sizeSheet (by simp [Value.oneCell']) KZ.out (by simp) rfl ?_; intro W9 K9 P9)
    (try simp only [Exit.inBlock, Exit.then])
    refine bodyPost_ret (results_cell_tmp_row rfl _ _ w.heap.size 38 zeroC (0, 0) _ rfl K9.out Tryd.underlying38 rfl sizeSheet) rfl ?_
    exact takesh_no HN.out (P9.bel HB2.out (Nat.le_refl _))
  · obtain rfl : x' = x := by rw [← hx, hun]; rfl
    have hc : (code != 0) = false := by rw [hcode.2 (by rw [hun]; rfl)]; rfl
    have HUN := Lib.hid hun
    have hxl : x'.length ≤ 1048576 := by have := (Pl.unB_some hun).2; omega
    clear hcode hx hun
    by_cases hx2 : x'.length < 2
    · have d2 : decide ((x'.length : Int) < 2) = true := by simp; omega
      have HN := Lib.hid (show Pl.takeS b = none by
        rw [Pl.takeS, HUN.out]
        match x', hx2 with
        | [], _ => rfl
        | [_], _ => rfl
        | _ :: _ :: _, h => simp at h; omega)
      go_wp2_with ((with_reducible refine gate_ (.store 38 (.tmp 2) (.tmp 33)) rfl ?_); refine store_blk rfl rfl 38 (.tmp 2) (.tmp 33) rfl w.heap.size 0 zeroC zeroC 38 (.agg zeroC) zeroL rfl rfl rfl sizeSheet (by simp [Value.oneCell']) KZ.out (by simp) rfl ?_; intro W9 K9 P9)
      (try simp only [Exit.inBlock, Exit.then])
      refine bodyPost_ret (results_cell_tmp_row rfl _ _ w.heap.size 38 zeroC (0, 0) _ rfl K9.out Tryd.underlying38 rfl sizeSheet) rfl ?_
      exact takesh_no HN.out (P9.bel HB2.out (Nat.le_refl _))
    · have d2 : decide ((x'.length : Int) < 2) = false := by simp; omega
      obtain ⟨fm, f, b2, hxe⟩ : ∃ fm f b2, x' = fm :: f :: b2 := by
        match x', hx2 with
        | [], h => simp at h
        | [_], h => simp at h
        | fm :: f :: b2, _ => exact ⟨fm, f, b2, rfl⟩
      have HXE := Lib.hid hxe
      obtain ⟨_, hc2, hF2⟩ := Kd.V_at HO2.out.rd
      obtain ⟨ad, hA2, y0⟩ := kb_cell hF2 0 (by omega)
      obtain ⟨ad', hA2', y1⟩ := kb_cell hF2 1 (by omega)
      rw [hA2] at hA2'
      injection hA2' with hA2'
      subst hA2'
      subst hA2
      rw [hxe] at y0 y1
      have y0' : w2.cell? ad = some (.int .u8 (fm.toNat : Int)) := by simpa [Addr.add] using y0
      have y1' : w2.cell? ⟨ad.block, ad.off + 1, none⟩ = some (.int .u8 (f.toNat : Int)) := by simpa [Addr.add] using y1
      have hxn : (2 : Int) ≤ (x'.length : Int) := by omega
      have hb2l : b2.length ≤ 1048576 := by have := congrArg List.length hxe; simp at this; omega
      clear y0 y1 hxe hx2 hF2
      by_cases hf32 : 32 ≤ f.toNat
      · have d3 : decide ((32 : Int) ≤ (f.toNat : Int)) = true := by simp; omega
        have HN := Lib.hid (show Pl.takeS b = none by
          rw [Pl.takeS, HUN.out, HXE.out]
          show Pl.implS (fm :: f :: b2) = none
          simp only [Pl.implS]
          rw [if_neg (by rintro ⟨h, _⟩; omega)])
        go_wp2_with ((with_reducible refine gate_ (.store 38 (.tmp 2) (.tmp 33)) rfl ?_); refine store_blk rfl rfl 38 (.tmp 2) (.tmp 33) rfl w.heap.size 0 zeroC zeroC 38 (.agg zeroC) zeroL rfl rfl rfl sizeSheet (by simp [Value.oneCell']) KZ.out (by simp) rfl ?_; intro W9 K9 P9)
        (try simp only [Exit.inBlock, Exit.then])
        refine bodyPost_ret (results_cell_tmp_row rfl _ _ w.heap.size 38 zeroC (0, 0) _ rfl K9.out Tryd.underlying38 rfl sizeSheet) rfl ?_
        exact takesh_no HN.out (P9.bel HB2.out (Nat.le_refl _))
      · have d3 : decide ((32 : Int) ≤ (f.toNat : Int)) = false := by simp; omega
        obtain ⟨A3, hcut, hV3⟩ := byte_from (Kd.V_at HO2.out.v).2.2 (Kd.V_at HO2.out.v).2.1 2 (by omega)
        have cut2 := hcut .i64 2 rfl
        have hdrop : x'.drop 2 = b2 := by rw [HXE.out]; rfl
        rw [hdrop] at hV3
        have HV3 := Lib.hid hV3
        have HF32 := Lib.hid hf32
        obtain ⟨g, hg⟩ : ∃ g, w2.heap.size = g := ⟨_, rfl⟩
        obtain ⟨k1, hk1⟩ : ∃ k, (bits .and .u8 (f.toNat : Int) 1 != 0) = k := ⟨_, rfl⟩
        obtain ⟨k2, hk2⟩ : ∃ k, (bits .and .u8 (f.toNat : Int) 2 != 0) = k := ⟨_, rfl⟩
        obtain ⟨k3, hk3⟩ : ∃ k, (bits .and .u8 (f.toNat : Int) 4 != 0) = k := ⟨_, rfl⟩
        obtain ⟨k4, hk4⟩ : ∃ k, (bits .and .u8 (f.toNat : Int) 8 != 0) = k := ⟨_, rfl⟩
        obtain ⟨k5, hk5⟩ : ∃ k, (bits .and .u8 (f.toNat : Int) 16 != 0) = k := ⟨_, rfl⟩
        clear hcut hdrop hV3 hf32
        go_wp2_with fail
        have HCF := Lib.hid (show ∀ n1 n2 n3 : Int, (⟨fm, k1, k2, k3, k4, k5, n1, n2, n3⟩ : Pl.Cfg) = Pl.cfgOf fm f n1 n2 n3 by
          intro n1 n2 n3
          obtain ⟨e1, e2, e3, e4, e5⟩ := flags_and f
          rw [Pl.cfgOf, ← hk1, ← hk2, ← hk3, ← hk4, ← hk5, e1, e2, e3, e4, e5])
        clear hk1 hk2 hk3 hk4 hk5
        refine wp_at fun W3 hW3 => ?_
        have hsz : w2.heap.size + 3 = W3.heap.size := by rw [← hW3]; simp
        have st0 : StT w W3 g (g + 3) (.slice none 0 0) ⟨⟨fm, k1, k2, k3, k4, k5, 0, 0, 0⟩, 0, 0, []⟩ b2 false := by
          rw [← hg]
          refine ⟨?_, ?_, ⟨⟨.slice A3 (x'.length - 2) (c2 - 2), ?_, ?_⟩, Or.inr (Or.inl rfl), fun k hk => ?_⟩, Own.nil _ _ _ _, ?_, hlt2, Nat.le_refl _, by omega⟩
          · rw [← hW3]; exact ((KZ.out.alloc _).alloc _).alloc _
          · rw [← hW3]; exact ((Blk.new _ _ _).alloc _).alloc _
          · rw [← hW3]
            have := (Blk.new (w2.alloc (.cells (sheetC ⟨⟨fm, k1, k2, k3, k4, k5, 0, 0, 0⟩, 0, 0, []⟩ (.slice none 0 0)) 38)) #[.slice A3 (x'.length - 2) (c2 - 2), .bool false] 63)
            rw [World.size_alloc] at this
            exact this.alloc _
          · refine Kd.V_below (Kd.V_mono (Kd.V_bound HV3.out) (fun k hk hs => ?_)) ?_
            · have h2 := hk.2
              rcases hs with h1 | h1 | h1
              · omega
              · omega
              · cases h1
            · rw [← hW3]
              exact (below_alloc (below_alloc (below_alloc (Below.refl _ _) _) _) _)
          · rcases hk with h1 | h1 | h1
            · omega
            · omega
            · cases h1
          · rw [← hW3]
            exact ((HB2.out.alloc HB2.out.size _).alloc (by have := HB2.out.size; simp; omega) _).alloc (by have := HB2.out.size; simp; omega) _
        have KP : Blk W3 (g + 2) #[.pointer (some ⟨g, 6, none⟩), .pointer (some ⟨g, 7, none⟩), .pointer (some ⟨g, 8, none⟩), .pointer (some ⟨g, 9, none⟩), .pointer (some ⟨g, 10, none⟩)] 64 := by
          rw [← hW3, ← hg]
          have := Blk.new ((w2.alloc (.cells (sheetC ⟨⟨fm, k1, k2, k3, k4, k5, 0, 0, 0⟩, 0, 0, []⟩ (.slice none 0 0)) 38)).alloc (.cells #[.slice A3 (x'.length - 2) (c2 - 2), .bool false] 63)) #[.pointer (some ⟨w2.heap.size, 6, none⟩), .pointer (some ⟨w2.heap.size, 7, none⟩), .pointer (some ⟨w2.heap.size, 8, none⟩), .pointer (some ⟨w2.heap.size, 9, none⟩), .pointer (some ⟨w2.heap.size, 10, none⟩)] 64
          simpa [World.size_alloc] using this
        have HS0 := Lib.hid st0
        have HP0 := Lib.hid KP
        clear hW3 st0 KP hsz
        refine wp_loop_rounds 6 ?_
        rw [rounds_succ]
        have hp : W3.cell? ⟨g + 2, 0, none⟩ = some (.pointer (some ⟨g, 6, none⟩)) := HP0.out.cell.1 0
        go_wp2_with fail
        refine (tknum_any (g + 1) _ b2 false _ HS0.out.t (by omega)).mono ?_
        rintro e X1 ⟨rfl, ht, hgr⟩
        obtain ⟨n1, hn⟩ : ∃ n, Pl.numN b2 = n := ⟨_, rfl⟩
        obtain ⟨r1, hr⟩ : ∃ r, Pl.numR b2 = r := ⟨_, rfl⟩
        obtain ⟨d1', hd⟩ : ∃ d, Pl.numBad b2 false = d := ⟨_, rfl⟩
        have hl1 : r1.length ≤ 1048576 := by have := Pl.numR_len b2; rw [← hr]; omega
        rw [hr, hd] at ht
        rw [hn]
        have HR1 := Lib.hid (⟨hn, hr, hd⟩ : Pl.numN b2 = n1 ∧ Pl.numR b2 = r1 ∧ Pl.numBad b2 false = d1')
        have hs := HS0.out.num ht hgr
        have HP' := Lib.hid (HP0.out.grown hgr (fun he => by injection he with he; omega))
        have hc1 : X1.cell? ⟨g, 6, none⟩ = some (.int .i64 0) := hs.k7.cell.1 6
        have hf1 : X1.frozen? ⟨g, 6, none⟩ = false := hs.k7.cell.2 6
        have HS' := Lib.hid hs
        clear hs hn hr hd ht hgr hp
        go_wp2_with fail
        refine wp_at fun V1 hV => ?_
        have HS1 := Lib.hid (show StT w V1 g (g + 3) (.slice none 0 0) ⟨⟨fm, k1, k2, k3, k4, k5, n1, 0, 0⟩, 0, 0, []⟩ r1 d1' by rw [← hV]; exact HS'.out.put 6 (.int .i64 n1) _ rfl rfl)
        have HP1 := Lib.hid (show Blk V1 (g + 2) _ 64 by rw [← hV]; exact HP'.out.far (by show g + 2 ≠ g; omega) _)
        clear hV hc1 hf1 HS' HP' HS0 HP0
        have hp : V1.cell? ⟨g + 2, 1, none⟩ = some (.pointer (some ⟨g, 7, none⟩)) := HP1.out.cell.1 1
        go_wp2_with fail
        refine (tknum_any (g + 1) _ r1 d1' _ HS1.out.t (by omega)).mono ?_
        rintro e X1 ⟨rfl, ht, hgr⟩
        obtain ⟨n2, hn⟩ : ∃ n, Pl.numN r1 = n := ⟨_, rfl⟩
        obtain ⟨r2, hr⟩ : ∃ r, Pl.numR r1 = r := ⟨_, rfl⟩
        obtain ⟨d2', hd⟩ : ∃ d, Pl.numBad r1 d1' = d := ⟨_, rfl⟩
        have hl2 : r2.length ≤ 1048576 := by have := Pl.numR_len r1; rw [← hr]; omega
        rw [hr, hd] at ht
        rw [hn]
        have HR2 := Lib.hid (⟨hn, hr, hd⟩ : Pl.numN r1 = n2 ∧ Pl.numR r1 = r2 ∧ Pl.numBad r1 d1' = d2')
        have hs := HS1.out.num ht hgr
        have HP' := Lib.hid (HP1.out.grown hgr (fun he => by injection he with he; omega))
        have hc1 : X1.cell? ⟨g, 7, none⟩ = some (.int .i64 0) := hs.k7.cell.1 7
        have hf1 : X1.frozen? ⟨g, 7, none⟩ = false := hs.k7.cell.2 7
        have HS' := Lib.hid hs
        clear hs hn hr hd ht hgr hp
        go_wp2_with fail
        refine wp_at fun V2 hV => ?_
        have HS2 := Lib.hid (show StT w V2 g (g + 3) (.slice none 0 0) ⟨⟨fm, k1, k2, k3, k4, k5, n1, n2, 0⟩, 0, 0, []⟩ r2 d2' by rw [← hV]; exact HS'.out.put 7 (.int .i64 n2) _ rfl rfl)
        have HP2 := Lib.hid (show Blk V2 (g + 2) _ 64 by rw [← hV]; exact HP'.out.far (by show g + 2 ≠ g; omega) _)
        clear hV hc1 hf1 HS' HP' HS1 HP1
        have hp : V2.cell? ⟨g + 2, 2, none⟩ = some (.pointer (some ⟨g, 8, none⟩)) := HP2.out.cell.1 2
        go_wp2_with fail
        refine (tknum_any (g + 1) _ r2 d2' _ HS2.out.t (by omega)).mono ?_
        rintro e X1 ⟨rfl, ht, hgr⟩
        obtain ⟨n3, hn⟩ : ∃ n, Pl.numN r2 = n := ⟨_, rfl⟩
        obtain ⟨r3, hr⟩ : ∃ r, Pl.numR r2 = r := ⟨_, rfl⟩
        obtain ⟨d3', hd⟩ : ∃ d, Pl.numBad r2 d2' = d := ⟨_, rfl⟩
        have hl3 : r3.length ≤ 1048576 := by have := Pl.numR_len r2; rw [← hr]; omega
        rw [hr, hd] at ht
        rw [hn]
        have HR3 := Lib.hid (⟨hn, hr, hd⟩ : Pl.numN r2 = n3 ∧ Pl.numR r2 = r3 ∧ Pl.numBad r2 d2' = d3')
        have hs := HS2.out.num ht hgr
        have HP' := Lib.hid (HP2.out.grown hgr (fun he => by injection he with he; omega))
        have hc1 : X1.cell? ⟨g, 8, none⟩ = some (.int .i64 0) := hs.k7.cell.1 8
        have hf1 : X1.frozen? ⟨g, 8, none⟩ = false := hs.k7.cell.2 8
        have HS' := Lib.hid hs
        clear hs hn hr hd ht hgr hp
        go_wp2_with fail
        refine wp_at fun V3 hV => ?_
        have HS3 := Lib.hid (show StT w V3 g (g + 3) (.slice none 0 0) ⟨⟨fm, k1, k2, k3, k4, k5, n1, n2, n3⟩, 0, 0, []⟩ r3 d3' by rw [← hV]; exact HS'.out.put 8 (.int .i64 n3) _ rfl rfl)
        have HP3 := Lib.hid (show Blk V3 (g + 2) _ 64 by rw [← hV]; exact HP'.out.far (by show g + 2 ≠ g; omega) _)
        clear hV hc1 hf1 HS' HP' HS2 HP2
        have hp : V3.cell? ⟨g + 2, 3, none⟩ = some (.pointer (some ⟨g, 9, none⟩)) := HP3.out.cell.1 3
        go_wp2_with fail
        refine (tknum_any (g + 1) _ r3 d3' _ HS3.out.t (by omega)).mono ?_
        rintro e X1 ⟨rfl, ht, hgr⟩
        obtain ⟨n4, hn⟩ : ∃ n, Pl.numN r3 = n := ⟨_, rfl⟩
        obtain ⟨r4, hr⟩ : ∃ r, Pl.numR r3 = r := ⟨_, rfl⟩
        obtain ⟨d4', hd⟩ : ∃ d, Pl.numBad r3 d3' = d := ⟨_, rfl⟩
        have hl4 : r4.length ≤ 1048576 := by have := Pl.numR_len r3; rw [← hr]; omega
        rw [hr, hd] at ht
        rw [hn]
        have HR4 := Lib.hid (⟨hn, hr, hd⟩ : Pl.numN r3 = n4 ∧ Pl.numR r3 = r4 ∧ Pl.numBad r3 d3' = d4')
        have hs := HS3.out.num ht hgr
        have HP' := Lib.hid (HP3.out.grown hgr (fun he => by injection he with he; omega))
        have hc1 : X1.cell? ⟨g, 9, none⟩ = some (.int .i64 0) := hs.k7.cell.1 9
        have hf1 : X1.frozen? ⟨g, 9, none⟩ = false := hs.k7.cell.2 9
        have HS' := Lib.hid hs
        clear hs hn hr hd ht hgr hp
        go_wp2_with fail
        refine wp_at fun V4 hV => ?_
        have HS4 := Lib.hid (show StT w V4 g (g + 3) (.slice none 0 0) ⟨⟨fm, k1, k2, k3, k4, k5, n1, n2, n3⟩, n4, 0, []⟩ r4 d4' by rw [← hV]; exact HS'.out.put 9 (.int .i64 n4) _ rfl rfl)
        have HP4 := Lib.hid (show Blk V4 (g + 2) _ 64 by rw [← hV]; exact HP'.out.far (by show g + 2 ≠ g; omega) _)
        clear hV hc1 hf1 HS' HP' HS3 HP3
        have hp : V4.cell? ⟨g + 2, 4, none⟩ = some (.pointer (some ⟨g, 10, none⟩)) := HP4.out.cell.1 4
        go_wp2_with fail
        refine (tknum_any (g + 1) _ r4 d4' _ HS4.out.t (by omega)).mono ?_
        rintro e X1 ⟨rfl, ht, hgr⟩
        obtain ⟨n5, hn⟩ : ∃ n, Pl.numN r4 = n := ⟨_, rfl⟩
        obtain ⟨r5, hr⟩ : ∃ r, Pl.numR r4 = r := ⟨_, rfl⟩
        obtain ⟨d5', hd⟩ : ∃ d, Pl.numBad r4 d4' = d := ⟨_, rfl⟩
        have hl5 : r5.length ≤ 1048576 := by have := Pl.numR_len r4; rw [← hr]; omega
        rw [hr, hd] at ht
        rw [hn]
        have HR5 := Lib.hid (⟨hn, hr, hd⟩ : Pl.numN r4 = n5 ∧ Pl.numR r4 = r5 ∧ Pl.numBad r4 d4' = d5')
        have hs := HS4.out.num ht hgr
        have HP' := Lib.hid (HP4.out.grown hgr (fun he => by injection he with he; omega))
        have hc1 : X1.cell? ⟨g, 10, none⟩ = some (.int .i64 0) := hs.k7.cell.1 10
        have hf1 : X1.frozen? ⟨g, 10, none⟩ = false := hs.k7.cell.2 10
        have HS' := Lib.hid hs
        clear hs hn hr hd ht hgr hp
        go_wp2_with fail
        refine wp_at fun V5 hV => ?_
        have HS5 := Lib.hid (show StT w V5 g (g + 3) (.slice none 0 0) ⟨⟨fm, k1, k2, k3, k4, k5, n1, n2, n3⟩, n4, n5, []⟩ r5 d5' by rw [← hV]; exact HS'.out.put 10 (.int .i64 n5) _ rfl rfl)
        have HP5 := Lib.hid (show Blk V5 (g + 2) _ 64 by rw [← hV]; exact HP'.out.far (by show g + 2 ≠ g; omega) _)
        clear hV hc1 hf1 HS' HP' HS4 HP4
        have HSH := Lib.hid (show Pl.sheetT fm f b2 = (⟨⟨fm, k1, k2, k3, k4, k5, n1, n2, n3⟩, n4, n5, (Pl.filesT (Pl.names ⟨fm, k1, k2, k3, k4, k5, n1, n2, n3⟩) r5 d5').1⟩, (Pl.filesT (Pl.names ⟨fm, k1, k2, k3, k4, k5, n1, n2, n3⟩) r5 d5').2) by
          simp only [Pl.sheetT, HR1.out.1, HR1.out.2.1, HR1.out.2.2, HR2.out.1, HR2.out.2.1, HR2.out.2.2, HR3.out.1, HR3.out.2.1, HR3.out.2.2, HR4.out.1, HR4.out.2.1, HR4.out.2.2, HR5.out.1, HR5.out.2.1, HR5.out.2.2, ← HCF.out])
        obtain ⟨C, hC⟩ : ∃ C : Pl.Cfg, C = ⟨fm, k1, k2, k3, k4, k5, n1, n2, n3⟩ := ⟨_, rfl⟩
        rw [← hC] at HSH HS5
        have hK := HS5.out.k7
        obtain ⟨q0, q1, q2, q3, q4, q5, q6, q7, q8⟩ : V5.cell? ⟨g, 0, none⟩ = some (.int .u8 (fm.toNat : Int)) ∧ V5.cell? ⟨g, 1, none⟩ = some (.bool k1) ∧ V5.cell? ⟨g, 2, none⟩ = some (.bool k2) ∧ V5.cell? ⟨g, 3, none⟩ = some (.bool k3) ∧ V5.cell? ⟨g, 4, none⟩ = some (.bool k4) ∧ V5.cell? ⟨g, 5, none⟩ = some (.bool k5) ∧ V5.cell? ⟨g, 6, none⟩ = some (.int .i64 n1) ∧ V5.cell? ⟨g, 7, none⟩ = some (.int .i64 n2) ∧ V5.cell? ⟨g, 8, none⟩ = some (.int .i64 n3) := by
          rw [hC] at hK
          exact ⟨hK.cell.1 0, hK.cell.1 1, hK.cell.1 2, hK.cell.1 3, hK.cell.1 4, hK.cell.1 5, hK.cell.1 6, hK.cell.1 7, hK.cell.1 8⟩
        clear hK HR1 HR2 HR3 HR4 HR5 HCF HP5 hl1 hl2 hl3 hl4
        go_wp2_with fail
        rw [show (Value.agg #[.int .u8 (fm.toNat : Int), .bool k1, .bool k2, .bool k3, .bool k4, .bool k5, .int .i64 n1, .int .i64 n2, .int .i64 n3]) = cfgV C by rw [hC]]
        refine (names_any C V5).mono ?_
        rintro e w6 ⟨v6, rfl, ho6, hb6⟩
        obtain ⟨ns, hns⟩ : ∃ ns, Pl.names C = ns := ⟨_, rfl⟩
        rw [hns] at ho6
        rw [hns] at HSH
        have hnl : ns.length ≤ 40 := by rw [← hns]; exact names_le C
        have HNS := Lib.hid hns
        have HC := Lib.hid hC
        obtain ⟨A6, c6, hv6⟩ := Kd.N_slice ho6
        subst hv6
        have HV6 := Lib.hid (Kd.V_mono (Kd.V_bound ho6.v) (ok' := fun k => V5.heap.size ≤ k ∧ k < w6.heap.size) (fun k hk => hk))
        have HS6 := Lib.hid (HS5.out.bel hb6 rfl)
        have hsz5 := HS5.out.sz
        clear q0 q1 q2 q3 q4 q5 q6 q7 q8 ho6 hb6 hns hC HS5
        go_wp2_with fail
        obtain ⟨R, hR⟩ : ∃ R, Pl.filesT ns r5 d5' = R := ⟨_, rfl⟩
        have HR := Lib.hid hR
        rw [hR] at HSH
        clear hR cut2 y0' y1' hxn
        go_loopw [13, 14, 85] (fun _ _ i wr => ∃ (k : Nat) (fs : List Pl.FileT) (bk : List UInt8) (dk : Bool) (vr : Value), i = .int .i64 (k : Int) ∧ Aside0 (k ≤ ns.length ∧ fs.length = k) ∧ Aside0 ((fs ++ (Pl.filesT (ns.drop k) bk dk).1, (Pl.filesT (ns.drop k) bk dk).2) = R) ∧ Aside0 (StT w wr g w6.heap.size vr ⟨C, n4, n5, fs⟩ bk dk) ∧ Aside0 (Kd.V kStr 0 wr 0 (fun k => V5.heap.size ≤ k ∧ k < w6.heap.size) (.slice A6 ns.length c6) ns) ∧ Aside0 (bk.length ≤ 1048576)) (fun _ _ i _ => ns.length - (intOf i).toNat)
        case atStart => exact ⟨0, [], r5, d5', .slice none 0 0, rfl, ⟨by simp⟩, ⟨by simpa using HR.out⟩, ⟨HS6.out⟩, ⟨HV6.out⟩, ⟨hl5⟩⟩
        case round =>
          obtain ⟨k, fs, bk, dk, vr, rfl, hkk, HF, HS, HV, hbk⟩ := hrel
          by_cases hlt : k < ns.length
          · obtain ⟨m, hm⟩ : ∃ m, ns[k]? = some m := ⟨_, List.getElem?_eq_getElem hlt⟩
            obtain ⟨bd, hA, z0⟩ := kStr_cell (Kd.V_at HV.out).2.2 k m hm
            subst hA
            have q1 : (0 : Int) ≤ (k : Int) := by omega
            have q2 : (k : Int) < (ns.length : Int) := by omega
            have HM := Lib.hid hm
            have hfl : fs.length ≤ 40 := by have := hkk.out; omega
            have hdk : decide ((k : Int) < (ns.length : Int)) = true := by simp; omega
            clear hm
            go_wp2_with fail
            refine (tknum_any (g + 1) _ bk dk _ HS.out.t hbk.out).mono ?_
            rintro e X1 ⟨rfl, ht, hgr⟩
            obtain ⟨n, hn⟩ : ∃ n, Pl.numN bk = n := ⟨_, rfl⟩
            obtain ⟨bn, hr⟩ : ∃ r, Pl.numR bk = r := ⟨_, rfl⟩
            obtain ⟨dn, hd⟩ : ∃ d, Pl.numBad bk dk = d := ⟨_, rfl⟩
            have hbn : bn.length ≤ 1048576 := by have := Pl.numR_len bk; have := hbk.out; rw [← hr]; omega
            rw [hr, hd] at ht
            rw [hn]
            obtain ⟨sm, hsm⟩ : ∃ n, Pl.sumN bn = n := ⟨_, rfl⟩
            obtain ⟨bs, hbs⟩ : ∃ r, Pl.sumR bn = r := ⟨_, rfl⟩
            obtain ⟨ds, hds⟩ : ∃ d, Pl.sumBad bn dn = d := ⟨_, rfl⟩
            have HE := Lib.hid (⟨hn, hr, hd, hsm, hbs, hds⟩ : Pl.numN bk = n ∧ Pl.numR bk = bn ∧ Pl.numBad bk dk = dn ∧ Pl.sumN bn = sm ∧ Pl.sumR bn = bs ∧ Pl.sumBad bn dn = ds)
            have HFF := Lib.hid (show (fs ++ [(m, n, sm)] ++ (Pl.filesT (ns.drop (k + 1)) bs ds).1, (Pl.filesT (ns.drop (k + 1)) bs ds).2) = R by
              have e : ns.drop k = m :: ns.drop (k + 1) := by
                obtain ⟨hi, hx⟩ := List.getElem?_eq_some_iff.1 HM.out
                rw [List.drop_eq_getElem_cons hi, hx]
              rw [← HF.out, e]
              simp only [Pl.filesT, hn, hr, hd, hsm, hbs, hds, List.append_assoc, List.singleton_append])
            have HBS := Lib.hid (show bs.length ≤ 1048576 by have := Pl.sumR_len bn; rw [← hbs]; omega)
            have hs1 := (HS.out.num ht hgr)
            have HV1 := Lib.hid (Kd.V_step HV.out (fun j hj hl => hgr.block j hl (fun he => by injection he with he; omega)))
            have HS1 := Lib.hid hs1
            have hC1 : X1.cell? ⟨g, 11, none⟩ = some vr ∧ X1.frozen? ⟨g, 11, none⟩ = false := ⟨hs1.k7.cell.1 11, hs1.k7.cell.2 11⟩
            have hHC := Lib.hid hC1
            clear hs1 hn hr hd ht hgr hsm hbs hds z0 hdk hC1
            go_wp2_with fail
            apply wp_tail (S := fun A9 c9 W => StT w W g w6.heap.size (.slice A9 (fs.length + 1) c9) ⟨C, n4, n5, fs ++ [(m, n, sm)]⟩ bs ds ∧ Kd.V kStr 0 W 0 (fun k => V5.heap.size ≤ k ∧ k < w6.heap.size) (.slice (some bd) ns.length c6) ns)
            case' h1 =>
             have hC1 : X1.drew.cell? ⟨g, 11, none⟩ = some vr := hHC.out.1
             have hF1 : X1.drew.frozen? ⟨g, 11, none⟩ = false := hHC.out.2
             go_region_law (first | (refine Kd.N_append_step kFile (w0 := X2) (W := X2) w6.heap.size rfl (.tmp 92) (.tmp 98) 36 57 (.agg #[strV [], .int .i64 0, .int .u32 0]) 32 rfl Tryd.underlying36 infoFile rfl (by decide) (by omega) vr fs (m, n, sm) [strV m, .int .i64 n, .int .u32 sm] (fun j => w6.heap.size ≤ j) (fun _ => False) rfl rfl (file_FK _ _ _) (fun _ h => h.elim) (fun _ hj => Nat.le_trans HS2.out.sz hj) HS2.out.own (Below.refl _ _) HS2.out.sz (by omega) ?_; intro v9 w9 ho9 hb9 hg9 hat9; obtain ⟨A9, c9, hv9⟩ := Kd.N_slice ho9; rw [List.length_append, List.length_singleton] at hv9; subst hv9; have hk9 := HS2.out.k7.grown hg9 (fun he => by have := HS2.out.own.1 _ he.symm; have := HS2.out.gB; omega); have hC9 : w9.cell? ⟨g, 11, none⟩ = some vr := hk9.cell.1 11; have hF9 : w9.frozen? ⟨g, 11, none⟩ = false := hk9.cell.2 11; have HS9 := Lib.hid (HS2.out.app ho9 hg9 hat9); have HV9 := Lib.hid (Kd.V_far (Kd.V_step (Kd.V_step (Kd.V_drew HV1.out) (fun j hj hl => HG2.out.block j hl (fun he => by injection he with he; omega))) (fun j hj hl => hg9.block j hl (fun he => by have := HS2.out.own.1 _ he.symm; omega))) (p := ⟨g, 11, none⟩) (fun j hj he => by have : g = j := he.symm; omega) (.slice A9 (fs.length + 1) c9)); clear hk9 hg9 hat9 ho9 hb9) | (go_simp; go_at_call 36; refine (tksum_any (g + 1) _ bn dn _ HS1.out.drew.t hbn).mono ?_; rintro e X2 ⟨rfl, ht2, hgr2⟩; rw [HE.out.2.2.2.2.1, HE.out.2.2.2.2.2] at ht2; rw [HE.out.2.2.2.1]; have HS2 := Lib.hid (HS1.out.drew.num ht2 hgr2); have hC2 : X2.cell? ⟨g, 11, none⟩ = some vr := HS2.out.k7.cell.1 11; have hF2 : X2.frozen? ⟨g, 11, none⟩ = false := HS2.out.k7.cell.2 11; have HG2 := Lib.hid hgr2; have hgX : g < X2.heap.size := HS2.out.k7.lt; clear ht2 hgr2; go_wp2_with fail))
             all_goals exact ⟨A9, c9, ⟨X2, rfl⟩, HS9.out, HV9.out⟩
            case h2 =>
              rintro A9 c9 X2 w9 ⟨hs9, hv9⟩
              have HS9 := Lib.hid hs9
              have HV9 := Lib.hid hv9
              clear hs9 hv9
              go_wp2_with fail
              go_roundw
              case rel => exact ⟨k + 1, fs ++ [(m, n, sm)], bs, ds, _, by go_num, ⟨by have := hkk.out; simp; omega⟩, ⟨HFF.out⟩, ⟨HS9.out⟩, ⟨HV9.out⟩, ⟨HBS.out⟩⟩
              case measure => simp [intOf]; omega
          · obtain rfl : k = ns.length := by have := hkk.out; omega
            have hdk : decide ((ns.length : Int) < (ns.length : Int)) = false := by simp
            have HSH2 : Pl.sheetT fm f b2 = (⟨C, n4, n5, fs⟩, bk, dk) := by
              rw [HSH.out, ← HF.out, List.drop_length]
              simp only [Pl.filesT, List.append_nil]
            have HTS := Lib.hid (show (dk = false ∧ bk = [] ∧ ns ≠ [] ∧ n4 ≤ 4294967296 → Pl.takeS b = some ⟨C, n4, n5, fs⟩) ∧ (¬ (dk = false ∧ bk = [] ∧ ns ≠ [] ∧ n4 ≤ 4294967296) → Pl.takeS b = none) by
              rw [Pl.takeS, HUN.out, HXE.out]
              show (_ → Pl.implS (fm :: f :: b2) = _) ∧ (_ → Pl.implS (fm :: f :: b2) = _)
              simp only [Pl.implS, HSH2, HNS.out]
              have h32 : f.toNat < 32 := by have := HF32.out; omega
              exact ⟨fun h => by rw [if_pos ⟨h32, h.1, h.2.1, h.2.2.1, h.2.2.2⟩], fun h => by rw [if_neg (fun hh => h hh.2)]⟩)
            obtain ⟨u, K8, hVu⟩ := HS.out.t.out
            obtain ⟨Au, cu, rfl, _, _⟩ := hVu
            have r0 : wr.cell? ⟨g + 1, 0, none⟩ = some (.slice Au bk.length cu) := K8.cell.1 0
            have r1 : wr.cell? ⟨g + 1, 1, none⟩ = some (.bool dk) := K8.cell.1 1
            have r9 : wr.cell? ⟨g, 9, none⟩ = some (.int .i64 n4) := HS.out.k7.cell.1 9
            have KZ9 := Lib.hid HS.out.kz
            have HB9 := Lib.hid HS.out.hb
            clear K8 HSH2 HSH HF HV HC HNS HUN HXE HV3 HO2 KZ HB2 HS6 HV6
            rcases dk with _ | _
            rotate_left
            · skip
              have HN := Lib.hid (HTS.out.2 (fun h => by cases h.1))
              go_wp2_with ((with_reducible refine gate_ (.store 38 (.tmp 2) (.tmp 124)) rfl ?_); refine store_blk rfl rfl 38 (.tmp 2) (.tmp 124) rfl w.heap.size 0 zeroC zeroC 38 (.agg zeroC) zeroL rfl rfl rfl sizeSheet (by simp [Value.oneCell']) KZ9.out (by simp) rfl ?_; intro W9 K9 P9)
              (try simp only [Exit.inBlock, Exit.then])
              refine bodyPost_ret (results_cell_tmp_row rfl _ _ w.heap.size 38 zeroC (0, 0) _ rfl K9.out Tryd.underlying38 rfl sizeSheet) rfl ?_
              exact takesh_no HN.out (P9.bel HB9.out (Nat.le_refl _))
            · by_cases t1 : 0 < bk.length
              · have dd1 : decide ((0 : Int) < (bk.length : Int)) = true := by simp; omega
                have HN := Lib.hid (HTS.out.2 (fun h => by rw [h.2.1] at t1; simp at t1))
                go_wp2_with ((with_reducible refine gate_ (.store 38 (.tmp 2) (.tmp 124)) rfl ?_); refine store_blk rfl rfl 38 (.tmp 2) (.tmp 124) rfl w.heap.size 0 zeroC zeroC 38 (.agg zeroC) zeroL rfl rfl rfl sizeSheet (by simp [Value.oneCell']) KZ9.out (by simp) rfl ?_; intro W9 K9 P9)
                (try simp only [Exit.inBlock, Exit.then])
                refine bodyPost_ret (results_cell_tmp_row rfl _ _ w.heap.size 38 zeroC (0, 0) _ rfl K9.out Tryd.underlying38 rfl sizeSheet) rfl ?_
                exact takesh_no HN.out (P9.bel HB9.out (Nat.le_refl _))
              · have dd1 : decide ((0 : Int) < (bk.length : Int)) = false := decide_eq_false (by omega)
                by_cases t2 : ns.length = 0
                · have dd2 : ((ns.length : Int) == 0) = true := by rw [t2]; rfl
                  have HN := Lib.hid (HTS.out.2 (fun h => h.2.2.1 (List.length_eq_zero_iff.1 t2)))
                  go_wp2_with ((with_reducible refine gate_ (.store 38 (.tmp 2) (.tmp 124)) rfl ?_); refine store_blk rfl rfl 38 (.tmp 2) (.tmp 124) rfl w.heap.size 0 zeroC zeroC 38 (.agg zeroC) zeroL rfl rfl rfl sizeSheet (by simp [Value.oneCell']) KZ9.out (by simp) rfl ?_; intro W9 K9 P9)
                  (try simp only [Exit.inBlock, Exit.then])
                  refine bodyPost_ret (results_cell_tmp_row rfl _ _ w.heap.size 38 zeroC (0, 0) _ rfl K9.out Tryd.underlying38 rfl sizeSheet) rfl ?_
                  exact takesh_no HN.out (P9.bel HB9.out (Nat.le_refl _))
                · have dd2 : ((ns.length : Int) == 0) = false := by rw [beq_eq_false_iff_ne]; omega
                  by_cases t3 : 4294967296 < n4
                  · have dd3 : decide ((4294967296 : Int) < n4) = true := by simp; omega
                    have HN := Lib.hid (HTS.out.2 (fun h => by have := h.2.2.2; omega))
                    go_wp2_with ((with_reducible refine gate_ (.store 38 (.tmp 2) (.tmp 124)) rfl ?_); refine store_blk rfl rfl 38 (.tmp 2) (.tmp 124) rfl w.heap.size 0 zeroC zeroC 38 (.agg zeroC) zeroL rfl rfl rfl sizeSheet (by simp [Value.oneCell']) KZ9.out (by simp) rfl ?_; intro W9 K9 P9)
                    (try simp only [Exit.inBlock, Exit.then])
                    refine bodyPost_ret (results_cell_tmp_row rfl _ _ w.heap.size 38 zeroC (0, 0) _ rfl K9.out Tryd.underlying38 rfl sizeSheet) rfl ?_
                    exact takesh_no HN.out (P9.bel HB9.out (Nat.le_refl _))
                  · have dd3 : decide ((4294967296 : Int) < n4) = false := by simp; omega
                    have HN := Lib.hid (HTS.out.1 ⟨rfl, List.length_eq_zero_iff.1 (by omega), fun h => t2 (by rw [h]; rfl), by omega⟩)
                    have hK := HS.out.k7
                    obtain ⟨q0, q1, q2, q3, q4, q5, q6, q7, q8, q10, q11⟩ : wr.cell? ⟨g, 0, none⟩ = some (.int .u8 (C.fmt.toNat : Int)) ∧ wr.cell? ⟨g, 1, none⟩ = some (.bool C.num) ∧ wr.cell? ⟨g, 2, none⟩ = some (.bool C.skip) ∧ wr.cell? ⟨g, 3, none⟩ = some (.bool C.both) ∧ wr.cell? ⟨g, 4, none⟩ = some (.bool C.loops) ∧ wr.cell? ⟨g, 5, none⟩ = some (.bool C.back) ∧ wr.cell? ⟨g, 6, none⟩ = some (.int .i64 C.bud) ∧ wr.cell? ⟨g, 7, none⟩ = some (.int .i64 C.fan) ∧ wr.cell? ⟨g, 8, none⟩ = some (.int .i64 C.sha) ∧ wr.cell? ⟨g, 10, none⟩ = some (.int .i64 n5) ∧ wr.cell? ⟨g, 11, none⟩ = some vr := ⟨hK.cell.1 0, hK.cell.1 1, hK.cell.1 2, hK.cell.1 3, hK.cell.1 4, hK.cell.1 5, hK.cell.1 6, hK.cell.1 7, hK.cell.1 8, hK.cell.1 10, hK.cell.1 11⟩
                    obtain ⟨Ar, cr, hvr⟩ := Kd.N_slice HS.out.own
                    subst hvr
                    clear hK
                    go_wp2_with ((with_reducible refine gate_ (.store 38 (.tmp 2) (.tmp 125)) rfl ?_); refine store_blk rfl rfl 38 (.tmp 2) (.tmp 125) rfl w.heap.size 0 zeroC (sheetC ⟨C, n4, n5, fs⟩ (.slice Ar fs.length cr)) 38 (sheetV ⟨C, n4, n5, fs⟩ (.slice Ar fs.length cr)) (sheetC ⟨C, n4, n5, fs⟩ (.slice Ar fs.length cr)).toList rfl rfl rfl sizeSheet (by simp [Value.oneCell']) KZ9.out (by simp) rfl ?_; intro W9 K9 P9)
                    (try simp only [Exit.inBlock, Exit.then])
                    refine bodyPost_ret (results_cell_tmp_row rfl _ _ w.heap.size 38 _ (0, 0) _ rfl K9.out Tryd.underlying38 rfl sizeSheet) rfl ?_
                    exact ⟨.slice Ar fs.length cr, by rw [HN.out]; rfl, by rw [HN.out]; exact (P9.own HS.out.own (by have := HS.out.lt; have := HS.out.gB; omega)).rd, P9.bel HB9.out (Nat.le_refl _)⟩
end Go.Proofs.YtfppbkpdpapemaaDoor
