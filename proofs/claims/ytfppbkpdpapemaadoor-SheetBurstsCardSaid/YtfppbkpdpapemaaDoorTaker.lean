import Derived.Test.YtfppbkpdpapemaaDoorCfgKit
import Derived.Test.YtfppbkpdpapemaaDoorPlain3
import Derived.Test.YtfppbkpdpapemaaDoorBase
import Derived.WalkMore
import Derived.Laws.BitsAllLaws
import Derived.Test.YtfppbkpdpapemaaDoorUnfix8
/-! What numbers bytes begin with. No program in sight. -/
set_option linter.unusedSimpArgs false
set_option linter.unusedVariables false
namespace Go.Proofs.YtfppbkpdpapemaaDoor.Pl
/-- the number that bytes begin with, read from place i on -/
def takeGo : Nat → Nat → List UInt8 → Option (Nat × List UInt8)
  | _, _, [] => none
  | i, acc, c :: r => if 10 ≤ i then none else if c.toNat < 128 then (if (c.toNat = 0 ∧ 0 < i) ∨ (i = 9 ∧ 1 < c.toNat) then none else some (acc + c.toNat * 128 ^ i, r)) else takeGo (i + 1) (acc + (c.toNat - 128) * 128 ^ i) r
def takeB (l : List UInt8) : Option (Nat × List UInt8) := takeGo 0 0 l
theorem takeGo_nil (i acc : Nat) : takeGo i acc [] = none := rfl
theorem takeGo_cons (i acc : Nat) (c : UInt8) (r : List UInt8) : takeGo i acc (c :: r) = if 10 ≤ i then none else if c.toNat < 128 then (if (c.toNat = 0 ∧ 0 < i) ∨ (i = 9 ∧ 1 < c.toNat) then none else some (acc + c.toNat * 128 ^ i, r)) else takeGo (i + 1) (acc + (c.toNat - 128) * 128 ^ i) r := rfl
theorem pow_i {i : Nat} (h : i ≤ 9) : 128 ^ i = 1 ∨ 128 ^ i = 128 ∨ 128 ^ i = 16384 ∨ 128 ^ i = 2097152 ∨ 128 ^ i = 268435456 ∨ 128 ^ i = 34359738368 ∨ 128 ^ i = 4398046511104 ∨ 128 ^ i = 562949953421312 ∨ 128 ^ i = 72057594037927936 ∨ (i = 9 ∧ 128 ^ i = 9223372036854775808) := by
  rcases (show i = 0 ∨ i = 1 ∨ i = 2 ∨ i = 3 ∨ i = 4 ∨ i = 5 ∨ i = 6 ∨ i = 7 ∨ i = 8 ∨ i = 9 by omega) with rfl | rfl | rfl | rfl | rfl | rfl | rfl | rfl | rfl | rfl <;> decide
theorem takeGo_put : ∀ (k m : Nat) (i acc : Nat) (r : List UInt8), m ≤ k → m * 128 ^ i < 18446744073709551616 → (0 < i → 0 < m) → takeGo i acc (putB m ++ r) = some (acc + m * 128 ^ i, r) := by
  intro k
  induction k with
  | zero =>
    intro m i acc r hk hm hi
    obtain rfl : m = 0 := by omega
    have h0 : i = 0 := by rcases Nat.eq_zero_or_pos i with h | h; exact h; exact absurd (hi h) (by omega)
    subst h0
    rw [putB_small (by omega)]
    rfl
  | succ k ih =>
    intro m i acc r hk hm hi
    have hi9 : i ≤ 9 := by
      rcases Nat.lt_or_ge 9 i with h | h
      · have h1 : 128 ^ 10 ≤ 128 ^ i := Nat.pow_le_pow_right (by decide) h
        have h2 := hi (by omega)
        have h3 : 1 * 128 ^ i ≤ m * 128 ^ i := Nat.mul_le_mul_right _ h2
        have h4 : (128 : Nat) ^ 10 = 1180591620717411303424 := by decide
        omega
      · exact h
    by_cases hs : m < 128
    · rw [putB_small hs, List.singleton_append, takeGo_cons]
      have hc : (UInt8.ofNat m).toNat = m := by simp; omega
      rw [hc, if_neg (by omega), if_pos hs, if_neg]
      rintro (⟨h1, h2⟩ | ⟨h1, h2⟩)
      · have := hi h2; omega
      · subst h1
        have h4 : (128 : Nat) ^ 9 = 9223372036854775808 := by decide
        rw [h4] at hm
        omega
    · rw [putB_big hs, List.cons_append, takeGo_cons]
      have hc : (UInt8.ofNat (m % 128 + 128)).toNat = m % 128 + 128 := by simp; omega
      have hp : 128 ^ (i + 1) = 128 ^ i * 128 := Nat.pow_succ ..
      have hdm := Nat.div_add_mod m 128
      have e1 : m / 128 * 128 ^ (i + 1) + m % 128 * 128 ^ i = m * 128 ^ i := by
        rw [hp, ← Nat.mul_assoc, Nat.mul_right_comm, ← Nat.add_mul]
        congr 1
        omega
      rw [hc, if_neg (by omega), if_neg (by omega), Nat.add_sub_cancel, ih (m / 128) (i + 1) _ r (by omega) (by omega) (fun _ => by omega)]
      congr 2
      omega
theorem pow_z {i : Nat} (h : i ≤ 8) : ∃ Z, 128 ^ i * 128 * Z = 18446744073709551616 := by
  rcases (show i = 0 ∨ i = 1 ∨ i = 2 ∨ i = 3 ∨ i = 4 ∨ i = 5 ∨ i = 6 ∨ i = 7 ∨ i = 8 by omega) with rfl | rfl | rfl | rfl | rfl | rfl | rfl | rfl | rfl
  · exact ⟨144115188075855872, by decide⟩
  · exact ⟨1125899906842624, by decide⟩
  · exact ⟨8796093022208, by decide⟩
  · exact ⟨68719476736, by decide⟩
  · exact ⟨536870912, by decide⟩
  · exact ⟨4194304, by decide⟩
  · exact ⟨32768, by decide⟩
  · exact ⟨256, by decide⟩
  · exact ⟨2, by decide⟩
theorem fits {i d m : Nat} (h : i ≤ 8) (hd : d < 128) (hm : m * (128 ^ i * 128) < 18446744073709551616) : (d + 128 * m) * 128 ^ i < 18446744073709551616 := by
  obtain ⟨Z, hZ⟩ := pow_z h
  have hp : 0 < 128 ^ i := Nat.pow_pos (by decide)
  have hmz : m < Z := by
    rcases Nat.lt_or_ge m Z with h1 | h1
    · exact h1
    · have := Nat.mul_le_mul_left (128 ^ i * 128) h1
      rw [hZ, Nat.mul_comm] at this
      omega
  have h2 : d + 128 * m < 128 * Z := by omega
  have h3 := Nat.mul_lt_mul_of_pos_right h2 hp
  rw [← hZ]
  refine Nat.lt_of_lt_of_eq h3 ?_
  rw [Nat.mul_comm (128 * Z), Nat.mul_assoc]
theorem takeGo_some : ∀ (l : List UInt8) (i acc n : Nat) (r : List UInt8), takeGo i acc l = some (n, r) → ∃ m, l = putB m ++ r ∧ n = acc + m * 128 ^ i ∧ (0 < i → 0 < m) ∧ m * 128 ^ i < 18446744073709551616 := by
  intro l
  induction l with
  | nil => intro i acc n r h; simp [takeGo_nil] at h
  | cons c l ih =>
    intro i acc n r h
    rw [takeGo_cons] at h
    split at h
    · cases h
    · rename_i hi
      have hc8 := c.toNat_lt
      split at h
      · rename_i hc
        split at h
        · cases h
        · rename_i hb
          injection h with h
          injection h with h1 h2
          subst h1 h2
          refine ⟨c.toNat, ?_, rfl, fun h0 => by omega, ?_⟩
          · rw [putB_small hc]; simp
          · have hb2 : ¬ (i = 9 ∧ 1 < c.toNat) := fun hh => hb (.inr hh)
            rcases pow_i (i := i) (by omega) with h | h | h | h | h | h | h | h | h | ⟨h9, h⟩ <;> rw [h] <;> omega
      · rename_i hc
        obtain ⟨m, hl, hn, hm0, hm⟩ := ih _ _ _ _ h
        have hp : 128 ^ (i + 1) = 128 ^ i * 128 := Nat.pow_succ ..
        have hm1 := hm0 (by omega)
        have hi8 : i ≤ 8 := by
          rcases Nat.lt_or_ge 8 i with h8 | h8
          · obtain rfl : i = 9 := by omega
            have h4 : (128 : Nat) ^ (9 + 1) = 1180591620717411303424 := by decide
            rw [h4] at hm
            omega
          · exact h8
        refine ⟨c.toNat - 128 + 128 * m, ?_, ?_, fun _ => by omega, ?_⟩
        · rw [putB_big (by omega), List.cons_append, show (c.toNat - 128 + 128 * m) / 128 = m by omega, ← hl]
          congr 1
          rw [show (c.toNat - 128 + 128 * m) % 128 + 128 = c.toNat by omega]
          simp
        · rw [hn, hp, Nat.add_mul, Nat.add_assoc]
          congr 2
          rw [← Nat.mul_assoc, Nat.mul_comm 128 m, Nat.mul_right_comm]
        · rw [hp] at hm
          exact fits hi8 (by omega) hm
theorem takeB_put (n : Nat) (r : List UInt8) (h : n < 18446744073709551616) : takeB (putB n ++ r) = some (n, r) := by
  have := takeGo_put n n 0 0 r (Nat.le_refl _) (by simpa using h) (fun h => by omega)
  simpa [takeB] using this
theorem takeB_some {l r : List UInt8} {n : Nat} (h : takeB l = some (n, r)) : l = putB n ++ r ∧ n < 18446744073709551616 := by
  obtain ⟨m, h1, h2, _, h3⟩ := takeGo_some l 0 0 n r h
  simp at h2 h3
  subst h2
  exact ⟨h1, h3⟩
/-- .. if it is not too great -/
def numB (l : List UInt8) : Option (Nat × List UInt8) :=
  match takeB l with
  | some (n, r) => if n ≤ 4611686018427387904 then some (n, r) else none
  | none => none
theorem numB_put (n : Nat) (r : List UInt8) (h : n ≤ 4611686018427387904) : numB (putB n ++ r) = some (n, r) := by
  rw [numB, takeB_put n r (by omega)]
  simp [h]
theorem numB_some {l r : List UInt8} {n : Nat} (h : numB l = some (n, r)) : l = putB n ++ r ∧ n ≤ 4611686018427387904 := by
  unfold numB at h
  split at h
  · rename_i m s hs
    split at h
    · rename_i hle
      injection h with h
      injection h with h1 h2
      subst h1 h2
      exact ⟨(takeB_some hs).1, hle⟩
    · cases h
  · cases h
/-- the sum that bytes begin with -/
def sum4 (l : List UInt8) : Option (Nat × List UInt8) := if l.length < 4 then none else some (unfixB (l.take 4), l.drop 4)
end Go.Proofs.YtfppbkpdpapemaaDoor.Pl
/-! creelref01.Take. -/
set_option linter.unusedSimpArgs false
set_option linter.unusedVariables false
namespace Go.Proofs.YtfppbkpdpapemaaDoor
open Go.RowKit Go.Proofs.YtfppbkpdpapemaaDoorW.PrintWords Go.Proofs.YtfppbkpdpapemaaDoorW.PrintLast Go.Proofs.YtfppbkpdpapemaaDoorW.PrintMore

/-- What takes a number from bytes answers. -/
def TakeS (l : List UInt8) (w : World) (e : Ending) (w' : World) : Prop := ∃ (v' : Value) (code : Int), e = .returned (.tuple #[.int .u64 ((((Pl.takeB l).map (·.1)).getD 0 : Nat) : Int), v', .int .i64 code]) ∧ (code = 0 ↔ (Pl.takeB l).isSome = true) ∧ Own kb 5 w' w.heap.size v' (((Pl.takeB l).map (·.2)).getD []) ∧ Below w.heap.size w w'
theorem takes_no {l : List UInt8} {w w' : World} {code : Int} (h : Pl.takeB l = none) (hc : code ≠ 0) (hb : Below w.heap.size w w') : TakeS l w (.returned (.tuple #[.int .u64 0, .slice none 0 0, .int .i64 code])) w' :=
  ⟨_, code, by rw [h]; rfl, by rw [h]; simpa using hc, by rw [h]; exact Own.nil _ _ _ _, hb⟩
theorem pow_le {i : Nat} (h : i ≤ 9) : 1 ≤ 128 ^ i ∧ 128 ^ i ≤ 9223372036854775808 := by
  rcases Pl.pow_i h with h | h | h | h | h | h | h | h | h | ⟨_, h⟩ <;> omega
theorem pow_le8 {i : Nat} (h : i ≤ 8) : 128 ^ i ≤ 72057594037927936 := by
  have := Nat.pow_le_pow_right (show 0 < 128 by decide) h
  have h8 : (128 : Nat) ^ 8 = 72057594037927936 := by decide
  omega

set_option maxRecDepth 100000 in
set_option maxHeartbeats 2000000 in
theorem rtake_any (v : Value) (l : List UInt8) (w : World) (hv : Rd kb w v l) (hl : l.length ≤ 1048576) : Calls Tryd.prog 49 #[v] w (TakeS l w) := by
  have HR := Lib.hid hv
  obtain ⟨A, c0, rfl, hc0, hF⟩ := hv
  have HF := Lib.hid hF
  clear hF
  have HL := lit_own w w.heap.size [] [] rfl (Nat.le_refl _) (by simp)
  have HB := below_alloc (Below.refl _ w) (.cells #[] 5)
  have HLH := Lib.hid HL
  have HBH := Lib.hid HB
  clear HL HB
  go_enter Tryd.func49, Tryd.ntmps49
  go_wp2_with fail
  go_loop [5, 6, 7, 8] (fun x u i c => ∃ (k : Nat) (a p : Int), i = .int .i64 (k : Int) ∧ x = .int .u64 a ∧ u = .int .u64 p ∧ Aside0 (k ≤ 10) ∧ Aside0 (k ≤ 9 → ∃ acc : Nat, a = (acc : Int) ∧ p = ((128 ^ k : Nat) : Int) ∧ acc < 128 ^ k ∧ Pl.takeB l = Pl.takeGo k acc (l.drop k)) ∧ Aside0 (k = 10 → Pl.takeB l = none)) (fun _ _ i _ => 10 - (intOf i).toNat)
  case atStart => exact ⟨0, 0, 1, rfl, rfl, rfl, ⟨by omega⟩, ⟨fun _ => ⟨0, rfl, rfl, by decide, by simp [Pl.takeB]⟩⟩, ⟨by omega⟩⟩
  case round =>
    obtain ⟨k, a, p, rfl, rfl, rfl, hk, H9, H10⟩ := hrel
    by_cases hk9 : k ≤ 9
    · obtain ⟨acc, rfl, rfl, hacc, htk⟩ := H9.out hk9
      have HTK := Lib.hid htk
      obtain ⟨hp1, hp2⟩ := pow_le hk9
      have hp8 := fun (h : k ≤ 8) => pow_le8 h
      obtain ⟨P, hP⟩ : ∃ P, 128 ^ k = P := ⟨_, rfl⟩
      rw [hP] at hp1 hp2 hp8 hacc ⊢
      have HP := Lib.hid hP
      have HP8 := Lib.hid hp8
      have hdk : decide ((k : Int) < 10) = true := by simp; omega
      clear hP htk hp8
      by_cases hlt : k < l.length
      · have hdl : decide ((l.length : Int) ≤ (k : Int)) = false := by simp; omega
        obtain ⟨ad, rfl, hcell⟩ := kb_cell HF.out k hlt
        obtain ⟨cb, hcb⟩ : ∃ cb, l.getD k 0 = cb := ⟨_, rfl⟩
        rw [hcb] at hcell
        have HDR := Lib.hid (show l.drop k = cb :: l.drop (k + 1) by rw [List.drop_eq_getElem_cons hlt, ← hcb]; simp [List.getD, hlt])
        have hc8 := UInt8.toNat_lt cb
        obtain ⟨c, hc⟩ : ∃ c, cb.toNat = c := ⟨_, rfl⟩
        have HC := Lib.hid hc
        rw [hc] at hcell hc8
        have HSTEP := Lib.hid (show Pl.takeB l = if 10 ≤ k then none else if c < 128 then (if (c = 0 ∧ 0 < k) ∨ (k = 9 ∧ 1 < c) then none else some (acc + c * P, l.drop (k + 1))) else Pl.takeGo (k + 1) (acc + (c - 128) * P) (l.drop (k + 1)) by
          rw [HTK.out, HDR.out, Pl.takeGo_cons, HC.out, HP.out])
        have q1 : (0 : Int) ≤ (k : Int) := by omega
        have q2 : (k : Int) < (l.length : Int) := by omega
        have q3 : (0 : Int) ≤ (c : Int) := by omega
        have q4 : (c : Int) ≤ 255 := by omega
        clear hcb hc
        by_cases h128 : c < 128
        · have d1 : decide ((c : Int) < 128) = true := by simp; omega
          by_cases hbad : (c = 0 ∧ 0 < k) ∨ (k = 9 ∧ 1 < c)
          · have HN := Lib.hid (show Pl.takeB l = none by rw [HSTEP.out, if_neg (by omega), if_pos h128, if_pos hbad])
            by_cases hz : c = 0 ∧ 0 < k
            · obtain ⟨rfl, hz2⟩ := hz
              have d2 : decide ((0 : Int) < (k : Int)) = true := by simp; omega
              clear hbad
              go_wp2_with fail
              go_ret3
              exact takes_no HN.out (by decide) (Below.refl _ _)
            · have hb2 : k = 9 ∧ 1 < c := by rcases hbad with h | h; exact absurd h hz; exact h
              obtain ⟨hk99, hc1⟩ := hb2
              have d4 : ((k : Int) == 9) = true := by rw [beq_iff_eq]; omega
              have d2 : ((c : Int) == 0) = false := by rw [beq_eq_false_iff_ne]; omega
              have d3 : decide ((1 : Int) < (c : Int)) = true := by simp; omega
              clear hbad hz hk99
              go_wp2_with fail
              go_ret3
              exact takes_no HN.out (by decide) (Below.refl _ _)
          · have HN := Lib.hid (show Pl.takeB l = some (acc + c * P, l.drop (k + 1)) by rw [HSTEP.out, if_neg (by omega), if_pos h128, if_neg hbad])
            obtain ⟨q, hq⟩ : ∃ q, c * P = q := ⟨_, rfl⟩
            have hqm : (c : Int) * (P : Int) = (q : Int) := by rw [← hq]; simp
            have hqb : acc + q < 18446744073709551616 := by
              rw [← hq]
              rcases Nat.lt_or_ge k 9 with h9 | h9
              · have h1 := HP8.out (by omega)
                have h2 := Nat.mul_le_mul (show c ≤ 127 by omega) h1
                omega
              · have hc1 : c ≤ 1 := by
                  rcases Nat.lt_or_ge 1 c with h | h
                  · exact absurd (.inr ⟨by omega, h⟩) hbad
                  · exact h
                have h2 := Nat.mul_le_mul hc1 hp2
                omega
            rw [hq] at HN
            obtain ⟨A2, hcut, hV2⟩ := byte_from HF.out hc0 (k + 1) (by omega)
            replace hcut := hcut .i64 ((k : Int) + 1) (by omega)
            have HV2 := Lib.hid (Kd.V_mono hV2 fun _ _ => trivial : Rd kb w _ (l.drop (k + 1)))
            have HBAD := Lib.hid hbad
            have hw1 : IntKind.u64.wrap ((acc : Int) + (q : Int)) = (acc : Int) + (q : Int) := IntWalk.u64_in _ (by omega)
            have hw2 : IntKind.u64.wrap (q : Int) = (q : Int) := IntWalk.u64_in _ (by omega)
            clear hq hV2 hbad
            have fin : ∀ (v' : Value) (w' : World), Own kb 5 w' w.heap.size v' (l.drop (k + 1)) → Below w.heap.size w w' → TakeS l w (.returned (.tuple #[.int .u64 ((acc : Int) + (q : Int)), v', .int .i64 0])) w' := fun v' w' ho hb => ⟨v', 0, by rw [HN.out]; rfl, by rw [HN.out]; simp, by rw [HN.out]; exact ho, hb⟩
            have HFIN := Lib.hid fin
            clear fin
            by_cases hz : c = 0
            · have hk0 : ¬ (0 < k) := fun h => HBAD.out (.inl ⟨hz, h⟩)
              obtain rfl : k = 0 := by omega
              have d2 : ((c : Int) == 0) = true := by rw [beq_iff_eq]; omega
              rw [show (((0 : Nat) : Int) + 1) = 1 from rfl] at hcut
              have hcell0 : w.cell? ad = some (.int .u8 (c : Int)) := by simpa [Addr.add] using hcell
              have hne : ¬ l = [] := fun h => by rw [h] at hlt; simp at hlt
              have hdl0 : decide ((l.length : Int) ≤ 0) = false := by simp only [decide_eq_false_iff_not]; omega
              have hl0 : (0 : Int) < (l.length : Int) := by omega
              simp only [Nat.zero_add] at hcut HV2 HN HFIN
              clear hz hk0 hcell
              go_wp2_with ((with_reducible refine gate_builtin (b := .append) (xs := #[.tmp 43, .tmp 47]) rfl ?_); at_builtin; refine appN (w0 := w) w.heap.size rfl (.tmp 43) (.tmp 47) rfl _ _ [] (l.drop 1) rfl rfl HLH.out (Rd.below HV2.out HBH.out) HBH.out HBH.out.size (by rw [List.length_drop]; simp only [List.length_nil]; omega) ?_; intro v5 w5 ho5 hb5 hg5 hat5; rw [List.nil_append] at ho5)
              go_ret3
              exact HFIN.out _ _ ho5 hb5
            · have d2 : ((c : Int) == 0) = false := by rw [beq_eq_false_iff_ne]; omega
              by_cases h9 : k = 9
              · have d4 : ((k : Int) == 9) = true := by rw [beq_iff_eq]; omega
                have d5 : decide ((1 : Int) < (c : Int)) = false := by
                  have : ¬ (1 < c) := fun h => HBAD.out (.inr ⟨h9, h⟩)
                  simp; omega
                clear hz h9
                go_wp2_with ((with_reducible refine gate_builtin (b := .append) (xs := #[.tmp 43, .tmp 47]) rfl ?_); at_builtin; refine appN (w0 := w) w.heap.size rfl (.tmp 43) (.tmp 47) rfl _ _ [] (l.drop (k + 1)) rfl rfl HLH.out (Rd.below HV2.out HBH.out) HBH.out HBH.out.size (by simp; omega) ?_; intro v5 w5 ho5 hb5 hg5 hat5; rw [List.nil_append] at ho5)
                go_ret3
                exact HFIN.out _ _ ho5 hb5
              · have d4 : ((k : Int) == 9) = false := by rw [beq_eq_false_iff_ne]; omega
                clear hz h9
                go_wp2_with ((with_reducible refine gate_builtin (b := .append) (xs := #[.tmp 43, .tmp 47]) rfl ?_); at_builtin; refine appN (w0 := w) w.heap.size rfl (.tmp 43) (.tmp 47) rfl _ _ [] (l.drop (k + 1)) rfl rfl HLH.out (Rd.below HV2.out HBH.out) HBH.out HBH.out.size (by simp; omega) ?_; intro v5 w5 ho5 hb5 hg5 hat5; rw [List.nil_append] at ho5)
                go_ret3
                exact HFIN.out _ _ ho5 hb5
        · have d1 : decide ((c : Int) < 128) = false := by simp; omega
          have HN := Lib.hid (show Pl.takeB l = Pl.takeGo (k + 1) (acc + (c - 128) * P) (l.drop (k + 1)) by rw [HSTEP.out, if_neg (by omega), if_neg h128])
          have hw3 : IntKind.u64.wrap ((c : Int) - 128) = (c : Int) - 128 := IntWalk.u64_in _ (by omega)
          rcases Nat.lt_or_ge k 9 with h9 | h9
          · obtain ⟨q, hq⟩ : ∃ q, (c - 128) * P = q := ⟨_, rfl⟩
            have hqm : ((c : Int) - 128) * (P : Int) = (q : Int) := by rw [← hq, Int.natCast_mul]; congr 1; omega
            have hP8 := HP8.out (by omega)
            have hqb : acc + q < P * 128 := by
              rw [← hq]
              have h2 := Nat.mul_le_mul_right P (show c - 128 ≤ 127 by omega)
              omega
            have hw1 : IntKind.u64.wrap ((acc : Int) + (q : Int)) = (acc : Int) + (q : Int) := IntWalk.u64_in _ (by omega)
            have hw2 : IntKind.u64.wrap (q : Int) = (q : Int) := IntWalk.u64_in _ (by omega)
            have hw4 : IntKind.u64.wrap ((P : Int) * 128) = (P : Int) * 128 := IntWalk.u64_in _ (by omega)
            rw [hq] at HN
            clear hq
            go_wp2_with fail
            go_round
            case rel => exact ⟨k + 1, _, _, by go_num, rfl, rfl, ⟨by omega⟩, ⟨fun _ => ⟨acc + q, by simp, by rw [Nat.pow_succ, HP.out]; simp, by rw [Nat.pow_succ, HP.out]; exact hqb, HN.out⟩⟩, ⟨by omega⟩⟩
            case measure => simp [intOf]; omega
          · have HNO := Lib.hid (show Pl.takeB l = none by
              rw [HN.out]
              cases hdd : l.drop (k + 1) with
              | nil => rfl
              | cons x r => rw [Pl.takeGo_cons, if_pos (by omega)])
            have h99 : ¬ (k + 1 ≤ 9) := by omega
            go_wp2_with fail
            go_round
            case rel => exact ⟨k + 1, _, _, by go_num, rfl, rfl, ⟨by omega⟩, ⟨fun h => absurd h h99⟩, ⟨fun _ => HNO.out⟩⟩
            case measure => simp [intOf]; omega
      · have hdl : decide ((l.length : Int) ≤ (k : Int)) = true := by simp; omega
        have HN := Lib.hid (show Pl.takeB l = none by rw [HTK.out, List.drop_of_length_le (by omega), Pl.takeGo_nil])
        go_wp2_with fail
        go_ret3
        exact takes_no HN.out (by decide) (Below.refl _ _)
    · obtain rfl : k = 10 := by have := hk.out; omega
      have HN := Lib.hid (H10.out rfl)
      go_wp2_with fail
      go_ret3
      exact takes_no HN.out (by decide) (Below.refl _ _)
end Go.Proofs.YtfppbkpdpapemaaDoor
/-! vary.Take. -/
set_option linter.unusedSimpArgs false
set_option linter.unusedVariables false
namespace Go.Proofs.YtfppbkpdpapemaaDoor
open Go.RowKit Go.Proofs.YtfppbkpdpapemaaDoorW.PrintWords Go.Proofs.YtfppbkpdpapemaaDoorW.PrintLast Go.Proofs.YtfppbkpdpapemaaDoorW.PrintMore

namespace Pl
theorem and7 (c : Nat) (h : c < 256) : bits .andNot .u8 (c : Int) 128 = ((c % 128 : Nat) : Int) := by
  have key : ∀ k : Fin 256, bits .andNot .u8 (k.val : Int) 128 = ((k.val % 128 : Nat) : Int) := by decide +kernel
  exact key ⟨c, h⟩
theorem or_step (acc c k : Nat) (hacc : acc < 128 ^ k) (hc : c < 256) (hfit : acc + c % 128 * 128 ^ k < 18446744073709551616) :
    bits .or .u64 (acc : Int) (IntKind.u64.wrap (IntKind.u64.wrap (bits .andNot .u8 (c : Int) 128) * 2 ^ (7 * k))) = ((acc + c % 128 * 128 ^ k : Nat) : Int) := by
  have hp : (128 : Nat) ^ k = 2 ^ (7 * k) := by rw [show (128 : Nat) = 2 ^ 7 from rfl, ← Nat.pow_mul]
  rw [hp] at hacc hfit ⊢
  rw [and7 c hc, show IntKind.u64.wrap ((c % 128 : Nat) : Int) = ((c % 128 : Nat) : Int) from IntWalk.u64_in _ (by omega)]
  rw [show ((c % 128 : Nat) : Int) * 2 ^ (7 * k) = ((c % 128 * 2 ^ (7 * k) : Nat) : Int) by rw [Int.natCast_mul, Int.natCast_pow]; rfl]
  rw [IntWalk.u64_in _ (by omega), u64_or_nat _ _ (by omega) (by omega)]
  congr 1
  have := Nat.two_pow_add_eq_or_of_lt hacc (c % 128)
  rw [Nat.or_comm, Nat.mul_comm, ← this, Nat.mul_comm]
  omega
end Pl

set_option maxRecDepth 100000 in
set_option maxHeartbeats 2000000 in
theorem take_any (v : Value) (l : List UInt8) (w : World) (hv : Rd kb w v l) (hl : l.length ≤ 1048576) : Calls Tryd.prog 47 #[v] w (TakeS l w) := by
  have HR := Lib.hid hv
  obtain ⟨A, c0, rfl, hc0, hF⟩ := hv
  have HF := Lib.hid hF
  clear hF
  go_enter Tryd.func47, Tryd.ntmps47
  go_wp2_with (first | go_step3)
  go_loop [5, 6, 7, 10] (fun x u y i => ∃ (k : Nat) (a : Int), i = .int .i64 (k : Int) ∧ x = .int .u64 a ∧ Aside0 (k ≤ 10 ∧ k ≤ l.length) ∧ Aside0 (k ≤ 9 → ∃ acc : Nat, a = (acc : Int) ∧ acc < 128 ^ k ∧ Pl.takeB l = Pl.takeGo k acc (l.drop k)) ∧ Aside0 (k = 10 → Pl.takeB l = none)) (fun _ _ _ i => l.length - (intOf i).toNat)
  case atStart => exact ⟨0, 0, rfl, rfl, ⟨by omega, by omega⟩, ⟨fun _ => ⟨0, rfl, by decide, by simp [Pl.takeB]⟩⟩, ⟨by omega⟩⟩
  case round =>
    obtain ⟨k, a, rfl, rfl, hk, H9, H10⟩ := hrel
    by_cases hlt : k < l.length
    · have hdl : decide ((k : Int) < (l.length : Int)) = true := by simp; omega
      obtain ⟨ad, rfl, hcell⟩ := kb_cell HF.out k hlt
      obtain ⟨cb, hcb⟩ : ∃ cb, l.getD k 0 = cb := ⟨_, rfl⟩
      rw [hcb] at hcell
      have HDR := Lib.hid (show l.drop k = cb :: l.drop (k + 1) by rw [List.drop_eq_getElem_cons hlt, ← hcb]; simp [List.getD, hlt])
      have hc8 := UInt8.toNat_lt cb
      obtain ⟨c, hc⟩ : ∃ c, cb.toNat = c := ⟨_, rfl⟩
      have HC := Lib.hid hc
      rw [hc] at hcell hc8
      have q1 : (0 : Int) ≤ (k : Int) := by omega
      have q2 : (k : Int) < (l.length : Int) := by omega
      have q3 : (0 : Int) ≤ (c : Int) := by omega
      have q4 : (c : Int) ≤ 255 := by omega
      clear hcb hc
      by_cases hk9 : k ≤ 9
      · obtain ⟨acc, rfl, hacc, htk⟩ := H9.out hk9
        have HSTEP := Lib.hid (show Pl.takeB l = if 10 ≤ k then none else if c < 128 then (if (c = 0 ∧ 0 < k) ∨ (k = 9 ∧ 1 < c) then none else some (acc + c * 128 ^ k, l.drop (k + 1))) else Pl.takeGo (k + 1) (acc + (c - 128) * 128 ^ k) (l.drop (k + 1)) by
          rw [htk, HDR.out, Pl.takeGo_cons, HC.out])
        have hd9 : decide ((10 : Int) ≤ (k : Int)) = false := by simp; omega
        have HACC := Lib.hid hacc
        clear htk hacc
        by_cases h128 : c < 128
        · have d1 : decide ((128 : Int) ≤ (c : Int)) = false := by simp; omega
          by_cases hbad : (c = 0 ∧ 0 < k) ∨ (k = 9 ∧ 1 < c)
          · have HN := Lib.hid (show Pl.takeB l = none by rw [HSTEP.out, if_neg (by omega), if_pos h128, if_pos hbad])
            by_cases hz : c = 0 ∧ 0 < k
            · obtain ⟨hz1, hz2⟩ := hz
              have d2 : ((c : Int) == 0) = true := by rw [beq_iff_eq]; omega
              have d3 : decide ((0 : Int) < (k : Int)) = true := by simp; omega
              clear hbad hz1
              go_upto_region 7 with fail
              (generalize bits BinOp.or IntKind.u64 (acc : Int) (IntKind.u64.wrap (IntKind.u64.wrap (bits BinOp.andNot IntKind.u8 (c : Int) 128) * 2 ^ (7 * k))) = gv)
              go_wp2_with fail
              go_ret3
              exact takes_no HN.out (by decide) (Below.refl _ _)
            · have hb2 : k = 9 ∧ 1 < c := by rcases hbad with h | h; exact absurd h hz; exact h
              obtain ⟨hk99, hc1⟩ := hb2
              have d2 : ((c : Int) == 0) = false := by rw [beq_eq_false_iff_ne]; omega
              have d4 : ((k : Int) == 9) = true := by rw [beq_iff_eq]; omega
              have d3 : decide ((1 : Int) < (c : Int)) = true := by simp; omega
              clear hbad hz hk99
              go_upto_region 7 with fail
              (generalize bits BinOp.or IntKind.u64 (acc : Int) (IntKind.u64.wrap (IntKind.u64.wrap (bits BinOp.andNot IntKind.u8 (c : Int) 128) * 2 ^ (7 * k))) = gv)
              go_wp2_with fail
              go_ret3
              exact takes_no HN.out (by decide) (Below.refl _ _)
          · have HN := Lib.hid (show Pl.takeB l = some (acc + c * 128 ^ k, l.drop (k + 1)) by rw [HSTEP.out, if_neg (by omega), if_pos h128, if_neg hbad])
            have hfit : acc + c * 128 ^ k < 18446744073709551616 := by
              have := HACC.out
              rcases Nat.lt_or_ge k 9 with h9 | h9
              · have h1 := pow_le8 (i := k) (by omega)
                have h2 := Nat.mul_le_mul (show c ≤ 127 by omega) h1
                omega
              · have hc1 : c ≤ 1 := by
                  rcases Nat.lt_or_ge 1 c with h | h
                  · exact absurd (.inr ⟨by omega, h⟩) hbad
                  · exact h
                have h2 := Nat.mul_le_mul hc1 (pow_le hk9).2
                have h3 := (pow_le hk9).2
                omega
            have HVAL := Lib.hid (Pl.or_step acc c k HACC.out (by omega) (by rw [Nat.mod_eq_of_lt h128]; exact hfit))
            rw [Nat.mod_eq_of_lt h128] at HVAL
            obtain ⟨A2, hcut, hV2⟩ := byte_from HF.out hc0 (k + 1) (by omega)
            replace hcut := hcut .i64 ((k : Int) + 1) (by omega)
            have HV2 := Lib.hid (Kd.V_mono hV2 fun _ _ => trivial : Rd kb w _ (l.drop (k + 1)))
            have HBAD := Lib.hid hbad
            obtain ⟨q, hq⟩ : ∃ q, acc + c * 128 ^ k = q := ⟨_, rfl⟩
            rw [hq] at HN HVAL
            have fin : ∀ (v' : Value) (w' : World), Own kb 5 w' w.heap.size v' (l.drop (k + 1)) → Below w.heap.size w w' → TakeS l w (.returned (.tuple #[.int .u64 (q : Int), v', .int .i64 0])) w' := fun v' w' ho hb => ⟨v', 0, by rw [HN.out]; rfl, by rw [HN.out]; simp, by rw [HN.out]; exact ho, hb⟩
            have HFIN := Lib.hid fin
            clear fin hq hV2 hbad hfit
            by_cases hz : c = 0
            · have hk0 : ¬ (0 < k) := fun h => HBAD.out (.inl ⟨hz, h⟩)
              obtain rfl : k = 0 := by omega
              have d2 : ((c : Int) == 0) = true := by rw [beq_iff_eq]; omega
              rw [show (((0 : Nat) : Int) + 1) = 1 from rfl] at hcut
              have hcell0 : w.cell? ad = some (.int .u8 (c : Int)) := by simpa [Addr.add] using hcell
              have hne : ¬ l = [] := fun h => by rw [h] at hlt; simp at hlt
              have hdl0 : decide ((0 : Int) < (l.length : Int)) = true := by simp only [decide_eq_true_iff]; omega
              have hl0 : (0 : Int) < (l.length : Int) := by omega
              have hl00 : 0 < l.length := by omega
              simp only [Nat.zero_add, Nat.mul_zero, Nat.pow_zero, Int.pow_zero, Int.mul_one] at hcut HV2 HN HFIN HVAL
              clear hz hk0 hcell hdl
              go_upto_region 7 with fail
              rw [HVAL.out]
              go_wp2_with (go_at_call 42; refine (clone_any _ _ _ HV2.out (by rw [List.length_drop]; omega)).mono ?_; rintro e w5 ⟨v5, rfl, ho5, hb5⟩)
              go_ret3
              exact HFIN.out _ _ ho5 hb5
            · have d2 : ((c : Int) == 0) = false := by rw [beq_eq_false_iff_ne]; omega
              by_cases h9 : k = 9
              · have d4 : ((k : Int) == 9) = true := by rw [beq_iff_eq]; omega
                have d5 : decide ((1 : Int) < (c : Int)) = false := by
                  have : ¬ (1 < c) := fun h => HBAD.out (.inr ⟨h9, h⟩)
                  simp; omega
                clear hz h9
                go_upto_region 7 with fail
                rw [HVAL.out]
                go_wp2_with (go_at_call 42; refine (clone_any _ _ _ HV2.out (by rw [List.length_drop]; omega)).mono ?_; rintro e w5 ⟨v5, rfl, ho5, hb5⟩)
                go_ret3
                exact HFIN.out _ _ ho5 hb5
              · have d4 : ((k : Int) == 9) = false := by rw [beq_eq_false_iff_ne]; omega
                clear hz h9
                go_upto_region 7 with fail
                rw [HVAL.out]
                go_wp2_with (go_at_call 42; refine (clone_any _ _ _ HV2.out (by rw [List.length_drop]; omega)).mono ?_; rintro e w5 ⟨v5, rfl, ho5, hb5⟩)
                go_ret3
                exact HFIN.out _ _ ho5 hb5
        · have d1 : decide ((128 : Int) ≤ (c : Int)) = true := by simp; omega
          have HN := Lib.hid (show Pl.takeB l = Pl.takeGo (k + 1) (acc + (c - 128) * 128 ^ k) (l.drop (k + 1)) by rw [HSTEP.out, if_neg (by omega), if_neg h128])
          rcases Nat.lt_or_ge k 9 with h9 | h9
          · have hfit : acc + (c - 128) * 128 ^ k < 128 ^ k * 128 := by
              have := HACC.out
              have h2 := Nat.mul_le_mul_right (128 ^ k) (show c - 128 ≤ 127 by omega)
              omega
            have hP8 := pow_le8 (i := k) (by omega)
            have HVAL := Lib.hid (Pl.or_step acc c k HACC.out (by omega) (by rw [show c % 128 = c - 128 by omega]; omega))
            rw [show c % 128 = c - 128 by omega] at HVAL
            obtain ⟨q, hq⟩ : ∃ q, acc + (c - 128) * 128 ^ k = q := ⟨_, rfl⟩
            rw [hq] at HN HVAL hfit
            have HFIT := Lib.hid hfit
            clear hq hfit hP8
            go_upto_region 7 with fail
            rw [HVAL.out]
            go_wp2_with fail
            go_round
            case rel => exact ⟨k + 1, _, by go_num, rfl, ⟨by omega, by omega⟩, ⟨fun _ => ⟨q, rfl, by rw [Nat.pow_succ]; exact HFIT.out, HN.out⟩⟩, ⟨by omega⟩⟩
            case measure => simp [intOf]; omega
          · have HNO := Lib.hid (show Pl.takeB l = none by
              rw [HN.out]
              cases hdd : l.drop (k + 1) with
              | nil => rfl
              | cons x r => rw [Pl.takeGo_cons, if_pos (by omega)])
            have h99 : ¬ (k + 1 ≤ 9) := by omega
            go_upto_region 7 with fail
            (generalize bits BinOp.or IntKind.u64 (acc : Int) (IntKind.u64.wrap (IntKind.u64.wrap (bits BinOp.andNot IntKind.u8 (c : Int) 128) * 2 ^ (7 * k))) = gv)
            go_wp2_with fail
            go_round
            case rel => exact ⟨k + 1, _, by go_num, rfl, ⟨by omega, by omega⟩, ⟨fun h => absurd h h99⟩, ⟨fun _ => HNO.out⟩⟩
            case measure => simp [intOf]; omega
      · have hk10 : (10 : Int) ≤ (k : Int) := by omega
        have HN := Lib.hid (H10.out (by have := hk.out.1; omega))
        obtain rfl : k = 10 := by have := hk.out.1; omega
        have hdn : decide ((l.length : Int) < 10) = false := by simp; omega
        have hdl10 : decide ((10 : Int) < (l.length : Int)) = true := by simp; omega
        have q10 : (10 : Int) < (l.length : Int) := by omega
        have hcell10 : w.cell? ⟨ad.block, ad.off + 10, none⟩ = some (.int .u8 (c : Int)) := by simpa [Addr.add] using hcell
        clear hcell hdl q2
        go_wp2_with (first | go_step3)
        go_ret3
        exact takes_no HN.out (by decide) (Below.refl _ _)
    · obtain hke : k = l.length := by have := hk.out.2; omega
      have HN := Lib.hid (show Pl.takeB l = none by
        rcases Nat.lt_or_ge 9 k with h | h
        · exact H10.out (by have := hk.out.1; omega)
        · obtain ⟨acc, _, _, htk⟩ := H9.out h
          rw [htk, List.drop_of_length_le (by omega), Pl.takeGo_nil])
      have hdk : decide ((k : Int) < (l.length : Int)) = false := by simp; omega
      by_cases h10 : l.length < 10
      · have hdn : decide ((l.length : Int) < 10) = true := by simp; omega
        clear hke
        go_wp2_with (first | go_step3)
        go_ret3
        exact takes_no HN.out (by decide) (Below.refl _ _)
      · have hdn : decide ((l.length : Int) < 10) = false := by simp; omega
        clear hke
        go_wp2_with (first | go_step3)
        go_ret3
        exact takes_no HN.out (by decide) (Below.refl _ _)
end Go.Proofs.YtfppbkpdpapemaaDoor
/-! (*taker).num, (*taker).sum; creelref20.num. -/
set_option linter.unusedSimpArgs false
set_option linter.unusedVariables false
namespace Go.Proofs.YtfppbkpdpapemaaDoor
open Go.RowKit Go.Proofs.YtfppbkpdpapemaaDoorW.PrintWords Go.Proofs.YtfppbkpdpapemaaDoorW.PrintLast Go.Proofs.YtfppbkpdpapemaaDoorW.PrintMore

namespace Pl
/-- the number that a taker takes, what is left, and whether there was none -/
def numN (b : List UInt8) : Int := match numB b with | some (n, _) => (n : Int) | none => 0
def numR (b : List UInt8) : List UInt8 := match numB b with | some (_, r) => r | none => b
def numBad (b : List UInt8) (bad : Bool) : Bool := bad || (numB b).isNone
def sumN (b : List UInt8) : Int := if b.length < 4 then 0 else (unfixB (b.take 4) : Int)
def sumR (b : List UInt8) : List UInt8 := if b.length < 4 then b else b.drop 4
def sumBad (b : List UInt8) (bad : Bool) : Bool := bad || decide (b.length < 4)
/-- the reference's -/
def rnumN (b : List UInt8) : Int := match numB b with | some (n, _) => (n : Int) | none => -1
def rnumR (b : List UInt8) : List UInt8 := match numB b with | some (_, r) => r | none => []
theorem numR_len (b : List UInt8) : (numR b).length ≤ b.length := by
  unfold numR
  split
  · rename_i n r h
    have := congrArg List.length (numB_some h).1
    simp at this
    omega
  · exact Nat.le_refl _
theorem rnumR_len (b : List UInt8) : (rnumR b).length ≤ b.length := by
  unfold rnumR
  split
  · rename_i n r h
    have := congrArg List.length (numB_some h).1
    simp at this
    omega
  · simp
theorem sumR_len (b : List UInt8) : (sumR b).length ≤ b.length := by
  unfold sumR
  split
  · exact Nat.le_refl _
  · simp
end Pl

/-- A taker: what it has left (in no block of S, it among them), and whether one was none. -/
structure Tk (W : World) (S : Nat → Prop) (g : Nat) (b : List UInt8) (bad : Bool) : Prop where
  out : ∃ u, Blk W g #[u, .bool bad] 63 ∧ Kd.V kb 0 W 0 (fun k => ¬ S k) u b
  me : S g
  lt : ∀ k, S k → k < W.heap.size
theorem Tk.mono {W : World} {S S' : Nat → Prop} {g : Nat} {b : List UInt8} {bad : Bool} (h : Tk W S g b bad) (h1 : ∀ k, k < W.heap.size → S' k → S k) (h2 : S' g) (h3 : ∀ k, S' k → k < W.heap.size) : Tk W S' g b bad := by
  obtain ⟨u, K, hV⟩ := h.out
  exact ⟨⟨u, K, Kd.V_mono (Kd.V_bound hV) (fun k hk hs => hk.1 (h1 k hk.2 hs))⟩, h2, h3⟩
theorem Tk.same {W W1 : World} {S : Nat → Prop} {g : Nat} {b : List UInt8} {bad : Bool} (h : Tk W S g b bad) (hz : W.heap.size ≤ W1.heap.size) (h1 : ∀ k, k < W.heap.size → (k = g ∨ ¬ S k) → W1.heap[k]? = W.heap[k]?) : Tk W1 S g b bad := by
  obtain ⟨u, K, hV⟩ := h.out
  exact ⟨⟨u, ⟨(h1 g K.lt (Or.inl rfl)).trans K.out⟩, Kd.V_step hV (fun k hk hl => h1 k hl (Or.inr hk))⟩, h.me, fun k hk => Nat.lt_of_lt_of_le (h.lt k hk) hz⟩
theorem grown_of_below {w w' : World} (hb : Below w.heap.size w w') (row : Option Nat) : w.grownBy w' row := ⟨hb.os, hb.tape, hb.output, hb.size, fun k hk _ => hb.block k hk⟩
theorem grown_set {w w' : World} {g : Nat} (h : w.grownBy w' (some g)) (i : Nat) (u : Value) : w.grownBy (w'.setCell ⟨g, i, none⟩ u) (some g) :=
  ⟨h.os, h.tape, h.output, by rw [World.size_setCell]; exact h.size, fun k hk hne => (Below.heap_setCell w' ⟨g, i, none⟩ u k (fun he => hne (by rw [he]))).trans (h.block k hk hne)⟩

set_option maxRecDepth 100000 in
set_option maxHeartbeats 2000000 in
theorem tknum_any (g : Nat) (S : Nat → Prop) (b : List UInt8) (bad : Bool) (w : World) (T : Tk w S g b bad) (hl : b.length ≤ 1048576) : Calls Tryd.prog 35 #[.pointer (some ⟨g, 0, none⟩)] w fun e w' => e = .returned (.int .i64 (Pl.numN b)) ∧ Tk w' S g (Pl.numR b) (Pl.numBad b bad) ∧ w.grownBy w' (some g) := by
  obtain ⟨u, K, hV⟩ := T.out
  have HV := Lib.hid hV
  have hlt := K.lt
  have HK := Lib.hid K
  have x0 : w.cell? ⟨g, 0, none⟩ = some u := K.cell.1 0
  have HME := Lib.hid T.me
  have HLT := Lib.hid T.lt
  clear hV K T
  go_enter Tryd.func35, Tryd.ntmps35
  go_wp2_with fail
  refine (take_any u b w (Kd.V_mono HV.out fun _ _ => trivial) hl).mono ?_
  rintro e w2 ⟨v2, code, rfl, hcode, ho2, hb2⟩
  have K2 := HK.out.belowW hb2
  have HG2 := Lib.hid (grown_of_below hb2 (some g))
  have HV2 := Lib.hid (Kd.V_below HV.out hb2)
  have HSZ := Lib.hid hb2.size
  obtain ⟨y0, y1⟩ : w2.cell? ⟨g, 0, none⟩ = some u ∧ w2.cell? ⟨g, 1, none⟩ = some (.bool bad) := ⟨K2.cell.1 0, K2.cell.1 1⟩
  obtain ⟨f0, f1⟩ : w2.frozen? ⟨g, 0, none⟩ = false ∧ w2.frozen? ⟨g, 1, none⟩ = false := ⟨K2.cell.2 0, K2.cell.2 1⟩
  have HK2 := Lib.hid K2
  clear K2 hb2
  rcases htk : Pl.takeB b with _ | ⟨n, r⟩
  · rw [htk] at hcode ho2
    have hc : (code != 0) = true := by
      simp only [bne_iff_ne, ne_eq]
      intro h
      simpa using hcode.1 h
    have HNB := Lib.hid (show Pl.numB b = none by unfold Pl.numB; rw [htk])
    clear htk hcode ho2
    go_wp2_with fail
    go_ret
    refine ⟨by simp [Pl.numN, HNB.out], ⟨⟨u, ?_, ?_⟩, HME.out, fun k hk => by have := HLT.out k hk; have := HSZ.out; rw [World.size_setCell]; omega⟩, grown_set HG2.out 1 _⟩
    · have := HK2.out.set 1 (.bool true) rfl
      simpa [Pl.numBad, HNB.out] using this
    · rw [show Pl.numR b = b by simp [Pl.numR, HNB.out]]
      exact Kd.V_far HV2.out (fun k hk he => hk (by rw [he]; exact HME.out)) _
  · rw [htk] at hcode ho2
    have hc0 : code = 0 := hcode.2 rfl
    have hc : (code != 0) = false := by rw [hc0]; rfl
    have hn64 := (Pl.takeB_some htk).2
    have ho2' : Own kb 5 w2 w.heap.size v2 r := ho2
    obtain ⟨A2, c2, hv2⟩ := Kd.N_slice ho2'
    subst hv2
    have HO2 := Lib.hid ho2'
    have HTK := Lib.hid htk
    clear hcode ho2 ho2' hc0 htk
    by_cases hbig : n ≤ 4611686018427387904
    · have hd : decide ((4611686018427387904 : Int) < (n : Int)) = false := by simp; omega
      have hw : IntKind.i64.wrap (n : Int) = (n : Int) := IntWalk.i64_in _ (by omega)
      have HNB := Lib.hid (show Pl.numB b = some (n, r) by unfold Pl.numB; rw [HTK.out]; simp [hbig])
      go_wp2_with fail
      go_ret
      refine ⟨by simp [Pl.numN, HNB.out], ⟨⟨.slice A2 r.length c2, ?_, ?_⟩, HME.out, fun k hk => by have := HLT.out k hk; have := HSZ.out; rw [World.size_setCell]; omega⟩, grown_set HG2.out 0 _⟩
      · have := HK2.out.set 0 (.slice A2 r.length c2) rfl
        simpa [Pl.numBad, HNB.out] using this
      · rw [show Pl.numR b = r by simp [Pl.numR, HNB.out]]
        exact Kd.V_far (Kd.V_mono HO2.out.v (ok' := fun k => ¬ S k) (fun k hk hs => by have : w.heap.size ≤ k := hk; have := HLT.out k hs; omega)) (fun k hk he => hk (by rw [he]; exact HME.out)) _
    · have hd : decide ((4611686018427387904 : Int) < (n : Int)) = true := by simp; omega
      have HNB := Lib.hid (show Pl.numB b = none by unfold Pl.numB; rw [HTK.out]; simp [hbig])
      go_wp2_with fail
      go_ret
      refine ⟨by simp [Pl.numN, HNB.out], ⟨⟨u, ?_, ?_⟩, HME.out, fun k hk => by have := HLT.out k hk; have := HSZ.out; rw [World.size_setCell]; omega⟩, grown_set HG2.out 1 _⟩
      · have := HK2.out.set 1 (.bool true) rfl
        simpa [Pl.numBad, HNB.out] using this
      · rw [show Pl.numR b = b by simp [Pl.numR, HNB.out]]
        exact Kd.V_far HV2.out (fun k hk he => hk (by rw [he]; exact HME.out)) _

set_option maxRecDepth 100000 in
set_option maxHeartbeats 2000000 in
theorem tksum_any (g : Nat) (S : Nat → Prop) (b : List UInt8) (bad : Bool) (w : World) (T : Tk w S g b bad) (hl : b.length ≤ 1048576) : Calls Tryd.prog 36 #[.pointer (some ⟨g, 0, none⟩)] w fun e w' => e = .returned (.int .u32 (Pl.sumN b)) ∧ Tk w' S g (Pl.sumR b) (Pl.sumBad b bad) ∧ w.grownBy w' (some g) := by
  obtain ⟨u, K, hV⟩ := T.out
  have HV := Lib.hid hV
  have hlt := K.lt
  have HK := Lib.hid K
  have x0 : w.cell? ⟨g, 0, none⟩ = some u := K.cell.1 0
  have HME := Lib.hid T.me
  have HLT := Lib.hid T.lt
  clear hV K T
  go_enter Tryd.func36, Tryd.ntmps36
  go_wp2_with fail
  refine (unfix_any u b w (Kd.V_mono HV.out fun _ _ => trivial) hl).mono ?_
  rintro e w2 ⟨v2, rfl, ho2, hb2⟩
  have K2 := HK.out.belowW hb2
  have HG2 := Lib.hid (grown_of_below hb2 (some g))
  have HV2 := Lib.hid (Kd.V_below HV.out hb2)
  have HSZ := Lib.hid hb2.size
  obtain ⟨y0, y1⟩ : w2.cell? ⟨g, 0, none⟩ = some u ∧ w2.cell? ⟨g, 1, none⟩ = some (.bool bad) := ⟨K2.cell.1 0, K2.cell.1 1⟩
  obtain ⟨f0, f1⟩ : w2.frozen? ⟨g, 0, none⟩ = false ∧ w2.frozen? ⟨g, 1, none⟩ = false := ⟨K2.cell.2 0, K2.cell.2 1⟩
  have HK2 := Lib.hid K2
  clear K2 hb2
  by_cases h4 : b.length < 4
  · rw [if_pos h4, if_pos h4]
    have H4 := Lib.hid h4
    clear h4 ho2
    go_wp2_with fail
    go_ret
    refine ⟨by simp [Pl.sumN, H4.out], ⟨⟨u, ?_, ?_⟩, HME.out, fun k hk => by have := HLT.out k hk; have := HSZ.out; rw [World.size_setCell]; omega⟩, grown_set HG2.out 1 _⟩
    · have := HK2.out.set 1 (.bool true) rfl
      simpa [Pl.sumBad, H4.out] using this
    · rw [show Pl.sumR b = b by simp [Pl.sumR, H4.out]]
      exact Kd.V_far HV2.out (fun k hk he => hk (by rw [he]; exact HME.out)) _
  · rw [if_neg h4] at ho2
    rw [if_neg h4, if_neg h4]
    have H4 := Lib.hid h4
    obtain ⟨r4, hr4⟩ : ∃ r, b.drop 4 = r := ⟨_, rfl⟩
    rw [hr4] at ho2
    have HR4 := Lib.hid hr4
    obtain ⟨A2, c2, hv2⟩ := Kd.N_slice ho2
    subst hv2
    have HO2 := Lib.hid ho2
    clear hr4
    have hlt4 := Pl.unfixB_lt (b.take 4)
    rw [List.length_take, Nat.min_eq_left (by omega)] at hlt4
    obtain ⟨n, hn⟩ : ∃ n, Pl.unfixB (b.take 4) = n := ⟨_, rfl⟩
    have HN := Lib.hid hn
    rw [hn] at hlt4 ⊢
    have hw : IntKind.u32.wrap (n : Int) = (n : Int) := IntWalk.u32_in _ (by omega)
    clear h4 ho2 hn
    go_wp2_with fail
    go_ret
    refine ⟨by rw [show Pl.sumN b = (n : Int) by simp [Pl.sumN, H4.out, HN.out]]; rfl, ⟨⟨.slice A2 r4.length c2, ?_, ?_⟩, HME.out, fun k hk => by have := HLT.out k hk; have := HSZ.out; rw [World.size_setCell]; omega⟩, grown_set HG2.out 0 _⟩
    · have := HK2.out.set 0 (.slice A2 r4.length c2) rfl
      simpa [Pl.sumBad, H4.out] using this
    · rw [show Pl.sumR b = r4 by simp [Pl.sumR, H4.out, HR4.out]]
      exact Kd.V_far (Kd.V_mono HO2.out.v (ok' := fun k => ¬ S k) (fun k hk hs => by have : w.heap.size ≤ k := hk; have := HLT.out k hs; omega)) (fun k hk he => hk (by rw [he]; exact HME.out)) _

set_option maxRecDepth 100000 in
set_option maxHeartbeats 2000000 in
theorem rnum20_any (v : Value) (b : List UInt8) (w : World) (hv : Rd kb w v b) (hl : b.length ≤ 1048576) : Calls Tryd.prog 38 #[v] w fun e w' => ∃ v', e = .returned (.tuple #[.int .i64 (Pl.rnumN b), v']) ∧ Own kb 5 w' w.heap.size v' (Pl.rnumR b) ∧ Below w.heap.size w w' := by
  go_enter Tryd.func38, Tryd.ntmps38
  go_wp2_with fail
  refine (rtake_any v b w hv hl).mono ?_
  rintro e w2 ⟨v2, code, rfl, hcode, ho2, hb2⟩
  rcases htk : Pl.takeB b with _ | ⟨n, r⟩
  · rw [htk] at hcode ho2
    have hc : (code != 0) = true := by
      simp only [bne_iff_ne, ne_eq]
      intro h
      simpa using hcode.1 h
    have HNB := Lib.hid (show Pl.numB b = none by unfold Pl.numB; rw [htk])
    clear htk hcode ho2
    go_wp2_with fail
    go_ret2
    exact ⟨_, by rw [show Pl.rnumN b = -1 by simp [Pl.rnumN, HNB.out]]; rfl, by simp only [Pl.rnumR, HNB.out]; exact Own.nil _ _ _ _, hb2⟩
  · rw [htk] at hcode ho2
    have hc0 : code = 0 := hcode.2 rfl
    have hc : (code != 0) = false := by rw [hc0]; rfl
    have hn64 := (Pl.takeB_some htk).2
    have HO2 := Lib.hid (show Own kb 5 w2 w.heap.size v2 r from ho2)
    have HTK := Lib.hid htk
    clear hcode ho2 hc0 htk
    by_cases hbig : n ≤ 4611686018427387904
    · have hd : decide ((4611686018427387904 : Int) < (n : Int)) = false := by simp; omega
      have hw : IntKind.i64.wrap (n : Int) = (n : Int) := IntWalk.i64_in _ (by omega)
      have HNB := Lib.hid (show Pl.numB b = some (n, r) by unfold Pl.numB; rw [HTK.out]; simp [hbig])
      go_wp2_with fail
      go_ret2
      exact ⟨v2, by rw [show Pl.rnumN b = (n : Int) by simp [Pl.rnumN, HNB.out]]; rfl, by simp only [Pl.rnumR, HNB.out]; exact HO2.out, hb2⟩
    · have hd : decide ((4611686018427387904 : Int) < (n : Int)) = true := by simp; omega
      have HNB := Lib.hid (show Pl.numB b = none by unfold Pl.numB; rw [HTK.out]; simp [hbig])
      go_wp2_with fail
      go_ret2
      exact ⟨_, by rw [show Pl.rnumN b = -1 by simp [Pl.rnumN, HNB.out]]; rfl, by simp only [Pl.rnumR, HNB.out]; exact Own.nil _ _ _ _, hb2⟩
end Go.Proofs.YtfppbkpdpapemaaDoor
