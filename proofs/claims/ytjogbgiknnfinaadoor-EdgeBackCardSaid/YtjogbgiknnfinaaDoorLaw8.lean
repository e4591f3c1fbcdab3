import Derived.Test.YtjogbgiknnfinaaDoorParse
/-! creellaw08.few, creellaw08.shown. -/
set_option linter.unusedSimpArgs false
set_option linter.unusedVariables false
namespace Go.Proofs.YtjogbgiknnfinaaDoor
open Go.RowKit Go.Proofs.YtjogbgiknnfinaaDoorW.PrintWords Go.Proofs.YtjogbgiknnfinaaDoorW.PrintLast Go.Proofs.YtjogbgiknnfinaaDoorW.PrintMore
attribute [local go_sem] max2_int min2_int max_two min_two

theorem few08_any (v : Value) (l : List UInt8) (w : World) (hv : Rd kb w v l) : Calls Tryd.prog 7 #[v] w fun e w' => ∃ v', e = .returned v' ∧ Rd kb w v' (l.take 200) ∧ w = w' := by
  obtain ⟨A, c, rfl, hc, hF⟩ := hv
  obtain ⟨hcut, hV⟩ := byte_to hF hc (min l.length 200) (by omega)
  have hm := Kd.F_max hF
  have HV := Lib.hid hV
  have e1 : l.take (min l.length 200) = l.take 200 := by
    rcases Nat.le_total l.length 200 with h | h
    · rw [Nat.min_eq_left h, List.take_of_length_le (Nat.le_refl _), List.take_of_length_le h]
    · rw [Nat.min_eq_right h]
  have HE := Lib.hid e1
  clear hV hF e1
  by_cases h : l.length ≤ 200
  · replace hcut := hcut .i64 (l.length : Int) (by omega)
    have h2 : ¬ (200 : Int) < (l.length : Int) := by omega
    go_enter Tryd.func7, Tryd.ntmps7
    go_wp2_with fail
    go_ret
    exact ⟨_, rfl, by have := HV.out; rw [HE.out, Nat.min_eq_left h] at this; exact this, rfl⟩
  · replace hcut := hcut .i64 (200 : Int) (by omega)
    have h2 : (200 : Int) < (l.length : Int) := by omega
    go_enter Tryd.func7, Tryd.ntmps7
    go_wp2_with fail
    go_ret
    exact ⟨_, rfl, by have := HV.out; rw [HE.out] at this; rw [Nat.min_eq_right (by omega)] at this ⊢; exact this, rfl⟩

theorem ex1 : Pl.label [50, 53, 56] true = some [0, 0, 1, 2] := by decide
theorem ex2 : Pl.label [48, 49] true = none := by decide
theorem ex3 : Pl.edge 0 [97, 32, 98, 32, 99] false = Pl.bad 80 0 := by
  have h : Pl.words 0 [97, 32, 98, 32, 99] = [(0, [97]), (2, [98]), (4, [99])] := by
    simp [Pl.words, Pl.wordsFrom, Pl.tok, Pl.isBl]
  unfold Pl.edge
  rw [h]

set_option maxRecDepth 100000 in
set_option maxHeartbeats 1000000 in
theorem shown08_any (w : World) : Calls Tryd.prog 11 #[] w fun e w' => e = .returned (.bool true) ∧ Below w.heap.size w w' := by
  have kc := fun (w : World) (C : Array Value) (n c : Nat) => Lib.run_convert_bytes_const (P := Tryd.prog) w 22 5 C n c Tryd.underlying22 Tryd.underlying5
  go_enter Tryd.func11, Tryd.ntmps11
  go_wp2_with fail
  refine calls_at fun W1 h1 => ?_
  have HB1 : Below w.heap.size w W1 := by rw [← h1]; exact below_alloc (Below.refl _ _) _
  have HV1 := lit_rd w 3 #[.int .u8 50, .int .u8 53, .int .u8 56] 5 (3, 4) [50, 53, 56] rfl (by simp) (by simp)
  rw [h1] at HV1
  clear h1
  refine (label_any _ [50, 53, 56] true _ (Kd.V_mono HV1 fun _ _ => trivial)).mono ?_
  rw [ex1]
  rintro e W2 ⟨v2, rfl, ho2, hb2⟩
  simp only [Option.isSome_some, Option.getD_some] at ho2 ⊢
  obtain ⟨A2, c2, hv2⟩ := Kd.N_slice ho2
  subst hv2
  have HB2 := bthen HB1 hb2
  have HO2 := Lib.hid ho2
  clear ho2 hb2 HB1 HV1
  go_wp2_with fail
  refine calls_at fun W3 h3 => ?_
  have HB3 : Below W2.heap.size W2 W3 := by rw [← h3]; exact below_alloc (Below.refl _ _) _
  have HV3 := lit_rd W2 2 #[.int .u8 48, .int .u8 49] 5 (2, 3) [48, 49] rfl (by simp) (by simp)
  rw [h3] at HV3
  clear h3
  refine (label_any _ [48, 49] true _ (Kd.V_mono HV3 fun _ _ => trivial)).mono ?_
  rw [ex2]
  rintro e W4 ⟨v4, rfl, ho4, hb4⟩
  simp only [Option.isSome_none, Option.getD_none] at ho4 ⊢
  obtain ⟨A4, c4, hv4⟩ := Kd.N_slice ho4
  subst hv4
  have hb24 := bthen HB3 hb4
  have es : (convert 22 9 (.slice A2 4 c2)).run Tryd.prog W4 = .ok (.string ⟨#[0, 0, 1, 2]⟩) W4 := byte_string (Rd.below HO2.out.rd hb24)
  have HB4 := bthen HB2 hb24
  clear HB3 HV3 ho4 hb4 hb24 HB2
  go_wp2_with fail
  refine calls_at fun W5 h5 => ?_
  have HB5 : Below W4.heap.size W4 W5 := by rw [← h5]; exact below_alloc (Below.refl _ _) _
  have HV5 := lit_rd W4 5 #[.int .u8 97, .int .u8 32, .int .u8 98, .int .u8 32, .int .u8 99] 5 (5, 6) [97, 32, 98, 32, 99] rfl (by simp) (by simp)
  rw [h5] at HV5
  clear h5 es
  refine (parse_any _ 0 [97, 32, 98, 32, 99] false _ (Kd.V_mono HV5 fun _ _ => trivial) (by omega) (by omega) (by simp)).mono ?_
  rw [ex3]
  rintro e W6 ⟨va, vb, rfl, hoa, hob, hb6⟩
  obtain ⟨A5, c5, hv5⟩ := Kd.N_slice hoa
  obtain ⟨A6, c6, hv6⟩ := Kd.N_slice hob
  subst hv5 hv6
  have HB6 := Lib.hid (bthen HB4 (bthen HB5 hb6))
  clear HB4 HB5 hb6 HV5 hoa hob
  simp only [Pl.bad]
  have hf := field_code
  go_wp2_with fail
  go_ret
  exact ⟨rfl, HB6.out⟩
end Go.Proofs.YtjogbgiknnfinaaDoor
