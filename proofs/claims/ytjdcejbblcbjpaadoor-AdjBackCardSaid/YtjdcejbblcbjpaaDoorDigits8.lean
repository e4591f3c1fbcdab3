import Derived.Test.YtjdcejbblcbjpaaDoorPlain3
import Derived.Test.YtjdcejbblcbjpaaDoorBase
import Derived.Test.YtjdcejbblcbjpaaDoorAuJ
import Derived.Lib.LaidTab
import Derived.Lib.AppendIntMem
/-! creellaw08.digits, creelref08.digits, strconv.AppendUint. -/
set_option linter.unusedSimpArgs false
set_option linter.unusedVariables false
namespace Go.Proofs.YtjdcejbblcbjpaaDoor
open Go.RowKit Go.Proofs.YtjdcejbblcbjpaaDoorW.PrintWords Go.Proofs.YtjdcejbblcbjpaaDoorW.PrintLast Go.Proofs.YtjdcejbblcbjpaaDoorW.PrintMore



theorem rdigits_any (n : Nat) : ∀ (w : World), n < 4294967296 → Calls Tryd.prog 39 #[.int .u64 (n : Int)] w fun e w' => ∃ v', e = .returned v' ∧ Own kb 5 w' w.heap.size v' (Pl.dec n) ∧ Below w.heap.size w w' := by
  induction n using Nat.strongRecOn with
  | _ n ih =>
    intro w hn
    have hm : (n : Int) ≤ 4294967295 := by omega
    have HN := Lib.hid hn
    clear hn
    by_cases h : n < 10
    · have e1 : (((UInt8.ofNat (48 + n)).toNat : Nat) : Int) = 48 + (n : Int) := by simp; omega
      have HL := lit_own w w.heap.size [UInt8.ofNat (48 + n)] [.int .u8 (48 + (n : Int))] (by rw [List.map_cons, e1]; rfl) (Nat.le_refl _) (by simp)
      have HLH := Lib.hid HL
      have HD := Lib.hid (Pl.dec_small h)
      clear ih HL e1
      go_enter Tryd.func39, Tryd.ntmps39
      go_wp2_with fail
      go_ret
      rw [HD.out]
      exact ⟨_, rfl, HLH.out, below_alloc (Below.refl _ _) _⟩
    · have hih := ih (n / 10) (by omega) w (by have := HN.out; omega)
      have HI := Lib.hid hih
      have e1 : (((UInt8.ofNat (48 + n % 10)).toNat : Nat) : Int) = 48 + (n : Int) % 10 := by simp; omega
      have HE := Lib.hid e1
      have HD := Lib.hid (Pl.dec_big h)
      have hlen := (Pl.dec_all (n / 10)).2.2.2 10 (by omega) (by have := HN.out; omega)
      clear ih e1 hih
      go_enter Tryd.func39, Tryd.ntmps39
      go_wp2_with (first | (go_at_call 39; refine HI.out.mono ?_; rintro e w1 ⟨v1, rfl, ho1, hb1⟩; have HO1 := Lib.hid ho1; have HB1 := Lib.hid hb1; clear ho1 hb1) | ((with_reducible refine gate_builtin (b := .append) (xs := #[.tmp 11, .tmp 16]) rfl ?_); at_builtin; refine app1 (w0 := w) w.heap.size rfl (.tmp 11) (.tmp 16) rfl v1 (Pl.dec (n / 10)) (UInt8.ofNat (48 + n % 10)) _ HE.out.symm rfl rfl HO1.out HB1.out HB1.out.size (by omega) ?_; intro v5 w5 ho5 hb5 hg5 hat5))
      go_ret
      rw [HD.out]
      exact ⟨_, rfl, ho5, hb5⟩


theorem Pl.dec_lib (n : Nat) : Lib.decDigits n = Pl.dec n := by
  induction n using Nat.strongRecOn with
  | _ n ih =>
    by_cases h : n < 10
    · rw [Lib.decDigits, dif_pos h, Pl.dec_small h]
    · rw [Lib.decDigits, dif_neg h, Pl.dec_big h, ih (n / 10) (by omega)]
/-- Bytes owned by the library's word are owned by mine. -/
theorem own_of_row {w : World} {base n : Nat} {v : Value} {xs : List UInt8} (h : w.ownsRow base 5 1 v n (Lib.byteCells xs)) (hn : n = xs.length) : Own kb 5 w base v xs := by
  subst hn
  refine Kd.R_N ⟨fun k hk => (h.lt k hk).1, _, h, by simp [kb, Kd.scalar, Lib.byteCells], fun j x hx => ?_⟩
  show ((Lib.byteCells xs).drop (j * 1)).take 1 = [Value.int .u8 (x.toNat : Int)]
  obtain ⟨hj, hx'⟩ := List.getElem?_eq_some_iff.1 hx
  rw [Nat.mul_one, List.drop_eq_getElem_cons (by simpa [Lib.byteCells] using hj)]
  simp [hx', Lib.byteCells]
theorem appendUint_any (u : Nat) (w : World) (hu : u < 18446744073709551616) (htab : Lib.TabIs Tryd.prog w "internal/strconv.uint64pow10" .u64 Lib.pow10Tab) :
    Calls Tryd.prog 35 #[.slice none 0 0, .int .u64 (u : Int), .int .i64 10] w fun e w' => ∃ v' : Value, e = .returned v' ∧ Own kb 5 w' w.heap.size v' (Pl.dec u) ∧ Below w.heap.size w w' := by
  have hin : Calls Tryd.prog 45 #[.slice none 0 0, .int .u64 (u : Int), .int .i64 10] w fun e w' => ∃ v' : Value, e = .returned v' ∧ Own kb 5 w' w.heap.size v' (Pl.dec u) ∧ Below w.heap.size w w' := by
    by_cases h : u < 100
    · refine (Any.internal_strconv_AppendUint_10_small Tryd.laysM288 w.heap.size 0 u h (.slice none 0 0) [] w (World.ownsRow_nil _ _ _ _) (Nat.le_refl _) (by omega)).mono ?_
      rintro e w' ⟨v', rfl, ho, hb, _⟩
      refine ⟨v', rfl, ?_, hb⟩
      rw [← Pl.dec_lib]
      have ho2 : w'.ownsRow w.heap.size 5 1 v' (0 + (Lib.decDigits u).length) ([] ++ Lib.byteCells (Lib.decDigits u)) := ho
      exact own_of_row (n := 0 + (Lib.decDigits u).length) (by rw [List.nil_append] at ho2; exact ho2) (by simp)
    · refine (Any.internal_strconv_AppendUint_10_big Tryd.laysM288 w.heap.size 0 u (by omega) hu (.slice none 0 0) [] w (World.ownsRow_nil _ _ _ _) (Nat.le_refl _) (by omega) htab).mono ?_
      rintro e w' ⟨v', rfl, ho, hb, _⟩
      refine ⟨v', rfl, ?_, hb⟩
      rw [← Pl.dec_lib]
      have ho2 : w'.ownsRow w.heap.size 5 1 v' (0 + (Lib.decDigits u).length) ([] ++ Lib.byteCells (Lib.decDigits u)) := ho
      exact own_of_row (n := 0 + (Lib.decDigits u).length) (by rw [List.nil_append] at ho2; exact ho2) (by simp)
  have HI := Lib.hid hin
  clear hin
  go_enter Tryd.func35, Tryd.ntmps35
  go_wp2_with (go_at_call 45; refine HI.out.mono ?_; rintro e w' ⟨v', rfl, ho, hb⟩)
  go_ret
  exact ⟨_, rfl, ho, hb⟩
end Go.Proofs.YtjdcejbblcbjpaaDoor
