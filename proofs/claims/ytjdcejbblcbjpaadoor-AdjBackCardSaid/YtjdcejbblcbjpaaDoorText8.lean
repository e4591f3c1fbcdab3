import Derived.Test.YtjdcejbblcbjpaaDoorDigits8
import Derived.Test.YtjdcejbblcbjpaaDoorUnfix8
import Derived.Test.YtjdcejbblcbjpaaDoorLabel
import Derived.Test.YtjdcejbblcbjpaaDoorRef8
/-! edge.Text, creelref08.Text. -/
set_option linter.unusedSimpArgs false
set_option linter.unusedVariables false
namespace Go.Proofs.YtjdcejbblcbjpaaDoor
open Go.RowKit Go.Proofs.YtjdcejbblcbjpaaDoorW.PrintWords Go.Proofs.YtjdcejbblcbjpaaDoorW.PrintLast Go.Proofs.YtjdcejbblcbjpaaDoorW.PrintMore

/-- the word that a label is -/
def Pl.text (l : List UInt8) (num : Bool) : Option (List UInt8) := if num then (if l.length = 4 then some (Pl.dec (Pl.unfixB l)) else none) else Pl.label l false
theorem Pl.text_word (l : List UInt8) : Pl.text l false = Pl.label l false := rfl
theorem Pl.text_num {l : List UInt8} (h : l.length = 4) : Pl.text l true = some (Pl.dec (Pl.unfixB l)) := by simp [Pl.text, h]
theorem Pl.text_none {l : List UInt8} (h : ¬ l.length = 4) : Pl.text l true = none := by simp [Pl.text, h]
abbrev Tabs (w : World) : Prop := Lib.TabIs Tryd.prog w "internal/strconv.uint64pow10" .u64 Lib.pow10Tab
theorem Tabs.below {w w1 : World} (h : Tabs w) (hb : Below w.heap.size w w1) : Tabs w1 := Lib.tabBelow_of_tabIs h w1 hb

set_option maxRecDepth 100000 in
set_option maxHeartbeats 2000000 in
theorem text_all (v : Value) (l : List UInt8) (num : Bool) (w : World) (hv : Rd kb w v l) (hl : l.length ≤ 140737488355328) (htab : Tabs w) : Calls Tryd.prog 25 #[v, .bool num] w (OptSaid (Pl.text l num) w) := by
  have HR := Lib.hid hv
  obtain ⟨A, c, rfl, hc, _⟩ := hv
  have HT := Lib.hid htab
  clear htab
  cases num with
  | false =>
    rw [Pl.text_word]
    have HL := Lib.hid (label_any _ l false w HR.out)
    go_enter Tryd.func25, Tryd.ntmps25
    go_wp2_with (go_at_call 18; refine HL.out.mono ?_; rintro e w' ⟨v', rfl, ho, hb⟩)
    go_ret2
    exact ⟨_, rfl, ho, hb⟩
  | true =>
    have hu := unfix_all _ l w HR.out hl
    rcases Nat.lt_trichotomy l.length 4 with h4 | h4 | h4
    · simp only [if_pos h4] at hu
      rw [Pl.text_none (by omega)]
      have HU := Lib.hid hu
      have hne : ((l.length : Int) == 4) = false := beq_false_of_ne (by omega)
      clear hu h4
      go_enter Tryd.func25, Tryd.ntmps25
      go_wp2_with (go_at_call 34; refine HU.out.mono ?_; rintro e w2 ⟨v2, rfl, ho, hb⟩; obtain ⟨A2, c2, hv2⟩ := Kd.N_slice ho; subst hv2)
      go_ret2
      exact ⟨_, rfl, Own.nil _ _ _ _, hb⟩
    · simp only [if_neg (show ¬ l.length < 4 by omega)] at hu
      rw [List.drop_of_length_le (by omega), List.take_of_length_le (by omega)] at hu
      rw [Pl.text_num h4]
      have hN : Pl.unfixB l < 4294967296 := by have := Pl.unfixB_lt l; rw [h4] at this; omega
      obtain ⟨N, hNN⟩ : ∃ N, Pl.unfixB l = N := ⟨_, rfl⟩
      rw [hNN] at hu hN ⊢
      have HU := Lib.hid hu
      have hne : ((l.length : Int) == 4) = true := by rw [h4]; rfl
      have hl4 : (l.length : Int) = 4 := by omega
      have HN := Lib.hid hN
      clear hu h4 hNN hN
      go_enter Tryd.func25, Tryd.ntmps25
      go_wp2_with (go_at_call 34; refine HU.out.mono ?_; rintro e w2 ⟨v2, rfl, ho, hb⟩; obtain ⟨A2, c2, hv2⟩ := Kd.N_slice ho; rw [List.length_nil] at hv2; subst hv2; have HB := Lib.hid hb; have hs2 : w.heap.size ≤ w2.heap.size := hb.size; clear ho hb)
      refine (appendUint_any N w2 (by have := HN.out; omega) (HT.out.below HB.out)).mono ?_
      rintro e w3 ⟨v3, rfl, ho3, hb3⟩
      go_wp2_with fail
      go_ret2
      exact ⟨_, rfl, ho3.lower hs2, bthen HB.out hb3⟩
    · simp only [if_neg (show ¬ l.length < 4 by omega)] at hu
      rw [Pl.text_none (by omega)]
      have HU := Lib.hid hu
      have hne : ((l.length : Int) == 4) = false := beq_false_of_ne (by omega)
      have hgt : decide ((0 : Int) < ((l.drop 4).length : Int)) = true := by simp; omega
      obtain ⟨y, hy⟩ : ∃ y, l.drop 4 = y := ⟨_, rfl⟩
      rw [hy] at hgt HU
      have hyl : 0 < y.length := by rw [← hy]; simp; omega
      clear hu h4 hy
      go_enter Tryd.func25, Tryd.ntmps25
      go_wp2_with (go_at_call 34; refine HU.out.mono ?_; rintro e w2 ⟨v2, rfl, ho, hb⟩; obtain ⟨A2, c2, hv2⟩ := Kd.N_slice ho; subst hv2)
      go_ret2
      exact ⟨_, rfl, Own.nil _ _ _ _, hb⟩

theorem text_any (v : Value) (l : List UInt8) (num : Bool) (w : World) (hv : Rd kb w v l) (hl : l.length ≤ 1048576) (htab : Tabs w) : Calls Tryd.prog 25 #[v, .bool num] w (OptSaid (Pl.text l num) w) := text_all v l num w hv (by omega) htab
set_option maxRecDepth 100000 in
set_option maxHeartbeats 2000000 in
theorem rtext_all (v : Value) (l : List UInt8) (num : Bool) (w : World) (hv : Rd kb w v l) (hl : l.length ≤ 140737488355328) (htab : Tabs w) : Calls Tryd.prog 28 #[v, .bool num] w (OptSaid (Pl.text l num) w) := by
  have HR := Lib.hid hv
  obtain ⟨A, c, rfl, hc, _⟩ := hv
  have HT := Lib.hid htab
  clear htab
  cases num with
  | false =>
    rw [Pl.text_word]
    have HL := Lib.hid (rlabel_any _ l false w HR.out)
    go_enter Tryd.func28, Tryd.ntmps28
    go_wp2_with (go_at_call 37; refine HL.out.mono ?_; rintro e w' ⟨v', rfl, ho, hb⟩)
    go_ret2
    exact ⟨_, rfl, ho, hb⟩
  | true =>
    have hu := runfix_all _ l w HR.out hl
    rcases Nat.lt_trichotomy l.length 4 with h4 | h4 | h4
    · simp only [if_pos h4] at hu
      rw [Pl.text_none (by omega)]
      have HU := Lib.hid hu
      have hne : ((l.length : Int) == 4) = false := beq_false_of_ne (by omega)
      clear hu h4
      go_enter Tryd.func28, Tryd.ntmps28
      go_wp2_with (go_at_call 38; refine HU.out.mono ?_; rintro e w2 ⟨v2, rfl, ho, hb⟩; obtain ⟨A2, c2, hv2⟩ := Kd.N_slice ho; subst hv2)
      go_ret2
      exact ⟨_, rfl, Own.nil _ _ _ _, hb⟩
    · simp only [if_neg (show ¬ l.length < 4 by omega)] at hu
      rw [List.drop_of_length_le (by omega), List.take_of_length_le (by omega)] at hu
      rw [Pl.text_num h4]
      have hN : Pl.unfixB l < 4294967296 := by have := Pl.unfixB_lt l; rw [h4] at this; omega
      obtain ⟨N, hNN⟩ : ∃ N, Pl.unfixB l = N := ⟨_, rfl⟩
      rw [hNN] at hu hN ⊢
      have HU := Lib.hid hu
      have hne : ((l.length : Int) == 4) = true := by rw [h4]; rfl
      have hl4 : (l.length : Int) = 4 := by omega
      have HN := Lib.hid hN
      clear hu h4 hNN hN
      go_enter Tryd.func28, Tryd.ntmps28
      go_wp2_with (go_at_call 38; refine HU.out.mono ?_; rintro e w2 ⟨v2, rfl, ho, hb⟩; obtain ⟨A2, c2, hv2⟩ := Kd.N_slice ho; rw [List.length_nil] at hv2; subst hv2; have HB := Lib.hid hb; have hs2 : w.heap.size ≤ w2.heap.size := hb.size; clear ho hb)
      refine (rdigits_any N w2 HN.out).mono ?_
      rintro e w3 ⟨v3, rfl, ho3, hb3⟩
      go_wp2_with fail
      go_ret2
      exact ⟨_, rfl, ho3.lower hs2, bthen HB.out hb3⟩
    · simp only [if_neg (show ¬ l.length < 4 by omega)] at hu
      rw [Pl.text_none (by omega)]
      have HU := Lib.hid hu
      have hne : ((l.length : Int) == 4) = false := beq_false_of_ne (by omega)
      have hgt : decide ((0 : Int) < ((l.drop 4).length : Int)) = true := by simp; omega
      obtain ⟨y, hy⟩ : ∃ y, l.drop 4 = y := ⟨_, rfl⟩
      rw [hy] at hgt HU
      have hyl : 0 < y.length := by rw [← hy]; simp; omega
      clear hu h4 hy
      go_enter Tryd.func28, Tryd.ntmps28
      go_wp2_with (go_at_call 38; refine HU.out.mono ?_; rintro e w2 ⟨v2, rfl, ho, hb⟩; obtain ⟨A2, c2, hv2⟩ := Kd.N_slice ho; subst hv2)
      go_ret2
      exact ⟨_, rfl, Own.nil _ _ _ _, hb⟩
theorem rtext_any (v : Value) (l : List UInt8) (num : Bool) (w : World) (hv : Rd kb w v l) (hl : l.length ≤ 1048576) (htab : Tabs w) : Calls Tryd.prog 28 #[v, .bool num] w (OptSaid (Pl.text l num) w) := rtext_all v l num w hv (by omega) htab
end Go.Proofs.YtjdcejbblcbjpaaDoor
