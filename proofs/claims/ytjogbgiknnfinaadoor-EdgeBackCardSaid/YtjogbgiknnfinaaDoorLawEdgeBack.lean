import Derived.Test.YtjogbgiknnfinaaDoorPlainText
import Derived.Test.YtjogbgiknnfinaaDoorLaw8
/-! The law EdgeBack, walked. -/
set_option linter.unusedSimpArgs false
set_option linter.unusedVariables false
namespace Go.Proofs.YtjogbgiknnfinaaDoor
open Go.RowKit Go.Proofs.YtjogbgiknnfinaaDoorW.PrintWords Go.Proofs.YtjogbgiknnfinaaDoorW.PrintLast Go.Proofs.YtjogbgiknnfinaaDoorW.PrintMore

theorem not_wanted {b : Bool} {p q : Prop} (h : b = false) (hq : q) : if b = true then p else q := by
  subst h
  exact hq

set_option maxRecDepth 100000 in
set_option maxHeartbeats 4000000 in
theorem edgeBack_walk (v : Value) (b : List UInt8) (num : Bool) (w : World) (hv : Rd kb w v b) (htab : Tabs w) :
    Calls Tryd.prog 4 #[v, .bool num] w fun e w' => e = .returned (.bool true) ∧ Below w.heap.size w w' := by
  have HR := Lib.hid hv
  obtain ⟨A0, c0, rfl, hc0, _⟩ := hv
  have HT := Lib.hid htab
  clear htab
  go_enter Tryd.func4, Tryd.ntmps4
  obtain ⟨l, hll⟩ : ∃ l, b.take 200 = l := ⟨_, rfl⟩
  have hl2 : l.length ≤ 200 := by rw [← hll]; simp; omega
  have HLL := Lib.hid hll
  clear hll
  go_wp2_with (go_at_call 11; refine (shown08_any _).mono ?_; rintro e w0 ⟨rfl, hb0⟩; have HB0 := Lib.hid hb0; have HRz := Lib.hid (Rd.below HR.out hb0); clear hb0)
  refine (few08_any _ _ _ HRz.out).mono ?_
  rintro e w1 ⟨v2, rfl, hr2, rfl⟩
  rw [HLL.out] at hr2
  have HR2 := Lib.hid hr2
  clear hr2
  go_wp2_with fail
  refine (label_any _ l num _ HR2.out).mono ?_
  rintro e w2 ⟨v3, rfl, ho3, hb3⟩
  have HO3 := Lib.hid ho3
  have HB3 := Lib.hid (bthen HB0.out hb3)
  have HRa := Lib.hid (Rd.below HRz.out hb3)
  clear ho3 hb3 HR2
  have hxl : ((Pl.label l num).getD []).length ≤ 1000 := by
    unfold Pl.label
    split
    · split
      · simp [Pl.fixB_len]
      · simp
    · split
      · simp; omega
      · simp
  obtain ⟨p, hp⟩ : ∃ p, Pl.label l num = p := ⟨_, rfl⟩
  rw [hp] at HO3 hxl ⊢
  have HP := Lib.hid hp
  clear hp
  go_wp2_with fail
  refine (text_any _ (p.getD []) num _ HO3.out.rd (by omega) (HT.out.below HB3.out)).mono ?_
  rintro e w5 ⟨v5, rfl, ho5, hb5⟩
  have HO5 := Lib.hid ho5
  have HO35 := Lib.hid (HO3.out.below hb5)
  have HB5 := Lib.hid (bthen HB3.out hb5)
  have HRb := Lib.hid (Rd.below HRa.out hb5)
  clear ho5 hb5 HO3 HRa
  go_wp2_with fail
  refine (few08_any _ _ _ HRb.out).mono ?_
  rintro e w6 ⟨v6, rfl, hr6, rfl⟩
  rw [HLL.out] at hr6
  have HR6 := Lib.hid hr6
  clear hr6
  go_wp2_with fail
  refine (text_any _ l num _ HR6.out (by omega) (HT.out.below HB5.out)).mono ?_
  rintro e w7 ⟨v7, rfl, ho7, hb7⟩
  have HO7 := Lib.hid ho7
  have HO37 := Lib.hid (HO35.out.below hb7)
  have HO57 := Lib.hid (HO5.out.below hb7)
  have HB7 := Lib.hid (bthen HB5.out hb7)
  have HRc := Lib.hid (Rd.below HRb.out hb7)
  clear ho7 hb7 HR6 HO35 HO5 HRb
  obtain ⟨r, hr⟩ : ∃ r, Pl.text l num = r := ⟨_, rfl⟩
  rw [hr] at HO7 ⊢
  have HRR := Lib.hid hr
  clear hr
  go_wp2_with fail
  refine (label_any _ (r.getD []) num _ HO7.out.rd).mono ?_
  rintro e w9 ⟨v9, rfl, ho9, hb9⟩
  have HO9 := Lib.hid ho9
  have HO39 := Lib.hid (HO37.out.below hb9)
  have HO59 := Lib.hid (HO57.out.below hb9)
  have HO79 := Lib.hid (HO7.out.below hb9)
  have HB9 := Lib.hid (bthen HB7.out hb9)
  have HRd := Lib.hid (Rd.below HRc.out hb9)
  clear ho9 hb9 HO37 HO57 HO7 HRc HB0 HB3 HB5 HB7 HRz
  obtain ⟨x, hx⟩ : ∃ x, p.getD [] = x := ⟨_, rfl⟩
  obtain ⟨y, hy⟩ : ∃ y, Pl.text x num = y := ⟨_, rfl⟩
  obtain ⟨u, hu⟩ : ∃ u, r.getD [] = u := ⟨_, rfl⟩
  obtain ⟨z, hz⟩ : ∃ z, Pl.label u num = z := ⟨_, rfl⟩
  rw [hx] at HO39 HO59 ⊢
  rw [hy] at HO59 ⊢
  rw [hu] at HO79 HO9 ⊢
  rw [hz] at HO9 ⊢
  have c1 : (p = none ∧ x = []) ∨ (p.isSome = true ∧ y = some l) := by
    cases p with
    | none => exact .inl ⟨rfl, hx.symm⟩
    | some x' =>
      have e : x' = x := hx
      subst e
      exact .inr ⟨rfl, by rw [← hy]; exact Pl.text_label HP.out⟩
  have c2 : (r = none ∧ u = []) ∨ (r.isSome = true ∧ z = some l) := by
    cases r with
    | none => exact .inl ⟨rfl, hu.symm⟩
    | some u' =>
      have e : u' = u := hu
      subst e
      exact .inr ⟨rfl, by rw [← hz]; exact Pl.label_text HRR.out⟩
  have HRd2 := Lib.hid (Rd.below HRd.out (Below.refl _ _).drew)
  have C1 := Lib.hid c1
  have C2 := Lib.hid c2
  clear c1 c2 hx hy hu hz HP HRR
  obtain ⟨A3, c3, hv3⟩ := Kd.N_slice HO39.out
  obtain ⟨A7, c7, hv7⟩ := Kd.N_slice HO79.out
  subst hv3 hv7
  clear hxl hc0
  rcases C1.out with ⟨h1, h1x⟩ | ⟨h1, h1y⟩ <;> rcases C2.out with ⟨h2, h2u⟩ | ⟨h2, h2z⟩
  · clear C1 C2
    subst h1 h1x
    simp only [Option.isSome_none]
    obtain ⟨iy, hiy⟩ : ∃ b, y.isSome = b := ⟨_, rfl⟩
    rw [hiy]
    clear hiy
    subst h2 h2u
    simp only [Option.isSome_none]
    obtain ⟨iz, hiz⟩ : ∃ b, z.isSome = b := ⟨_, rfl⟩
    rw [hiz]
    clear hiz
    simp only [List.length_nil]
    go_wp2_with fail
    refine wp_region_noPanic ?_
    refine wp_region_held_drew (S := (fun W => True)) (by kernel_rfl) ?_ (fun hHeld => ?_)
    · first | exact trivial | ((try dsimp only); exact trivial)
    refine wpAnyH_take (i := 0) (oi := ?oi_00_0) (v := ?v_00_0) ?hi_00_0 (by kernel_rfl) (by kernel_rfl) (by kernel_rfl) (fun _ _ _ h => h) (Or.inl ⟨?wt_00_0, ?hy_00_0⟩) (by assumption) ?rest_00_0
    case hi_00_0 => (simp only [List.getElem?_toArray, List.getElem?_cons_succ, List.getElem?_cons_zero]; rfl)
    case wt_00_0 => rfl
    case hy_00_0 => (intro w hSw; (try dsimp only at hSw); go_simp) <;> (first | done | with_reducible rfl)
    (try simp only [Act.put, List.setIfInBounds_toArray, List.set_cons_zero, List.set_cons_succ])
    refine wpAnyH_take (i := 1) (oi := ?oi_00_1) (v := ?v_00_1) ?hi_00_1 (by kernel_rfl) (by kernel_rfl) (by kernel_rfl) (fun _ _ _ h => h) (Or.inl ⟨?wt_00_1, ?hy_00_1⟩) (by assumption) ?rest_00_1
    case hi_00_1 => (simp only [List.getElem?_toArray, List.getElem?_cons_succ, List.getElem?_cons_zero]; rfl)
    case wt_00_1 => rfl
    case hy_00_1 => (intro w hSw; (try dsimp only at hSw); go_simp) <;> (first | done | with_reducible rfl)
    (try simp only [Act.put, List.setIfInBounds_toArray, List.set_cons_zero, List.set_cons_succ])
    refine wpAnyH_take (i := 2) (oi := ?oi_00_2) (v := ?v_00_2) ?hi_00_2 (by kernel_rfl) (by kernel_rfl) (by kernel_rfl) (fun _ _ _ h => h) (Or.inl ⟨?wt_00_2, ?hy_00_2⟩) (by assumption) ?rest_00_2
    case hi_00_2 => (simp only [List.getElem?_toArray, List.getElem?_cons_succ, List.getElem?_cons_zero]; rfl)
    case wt_00_2 => rfl
    case hy_00_2 => (intro w hSw; (try dsimp only at hSw); go_simp) <;> (first | done | with_reducible rfl)
    (try simp only [Act.put, List.setIfInBounds_toArray, List.set_cons_zero, List.set_cons_succ])
    refine wpAnyH_take (i := 3) (oi := ?oi_00_3) (v := ?v_00_3) ?hi_00_3 (by kernel_rfl) (by kernel_rfl) (by kernel_rfl) (fun _ _ _ h => h) (Or.inl ⟨?wt_00_3, ?hy_00_3⟩) (by assumption) ?rest_00_3
    case hi_00_3 => (simp only [List.getElem?_toArray, List.getElem?_cons_succ, List.getElem?_cons_zero]; rfl)
    case wt_00_3 => rfl
    case hy_00_3 => (intro w hSw; (try dsimp only at hSw); go_simp) <;> (first | done | with_reducible rfl)
    (try simp only [Act.put, List.setIfInBounds_toArray, List.set_cons_zero, List.set_cons_succ])
    refine wpAnyH_take (i := 4) (oi := ?oi_00_4) (v := ?v_00_4) ?hi_00_4 (by kernel_rfl) (by kernel_rfl) (by kernel_rfl) (fun _ _ _ h => h) (Or.inl ⟨?wt_00_4, ?hy_00_4⟩) (by assumption) ?rest_00_4
    case hi_00_4 => (simp only [List.getElem?_toArray, List.getElem?_cons_succ, List.getElem?_cons_zero]; rfl)
    case wt_00_4 => rfl
    case hy_00_4 => (intro w hSw; (try dsimp only at hSw); go_simp) <;> (first | done | with_reducible rfl)
    (try simp only [Act.put, List.setIfInBounds_toArray, List.set_cons_zero, List.set_cons_succ])
    refine wpAnyH_take (i := 5) (oi := ?oi_00_5) (v := undef) ?hi_00_5 (by kernel_rfl) (by kernel_rfl) (by kernel_rfl) (fun _ _ _ h => h) (Or.inr ⟨?wt_00_5, rfl⟩) (by assumption) ?rest_00_5
    case hi_00_5 => (simp only [List.getElem?_toArray, List.getElem?_cons_succ, List.getElem?_cons_zero]; rfl)
    case wt_00_5 => rfl
    (try simp only [Act.put, List.setIfInBounds_toArray, List.set_cons_zero, List.set_cons_succ])
    refine wpAnyH_take (i := 6) (oi := ?oi_00_6) (v := undef) ?hi_00_6 (by kernel_rfl) (by kernel_rfl) (by kernel_rfl) (fun _ _ _ h => h) (Or.inr ⟨?wt_00_6, rfl⟩) (by assumption) ?rest_00_6
    case hi_00_6 => (simp only [List.getElem?_toArray, List.getElem?_cons_succ, List.getElem?_cons_zero]; rfl)
    case wt_00_6 => rfl
    (try simp only [Act.put, List.setIfInBounds_toArray, List.set_cons_zero, List.set_cons_succ])
    refine wpAnyH_take (i := 7) (oi := ?oi_00_7) (v := undef) ?hi_00_7 (by kernel_rfl) (by kernel_rfl) (by kernel_rfl) (fun _ _ _ h => h) (Or.inr ⟨?wt_00_7, rfl⟩) (by assumption) ?rest_00_7
    case hi_00_7 => (simp only [List.getElem?_toArray, List.getElem?_cons_succ, List.getElem?_cons_zero]; rfl)
    case wt_00_7 => rfl
    (try simp only [Act.put, List.setIfInBounds_toArray, List.set_cons_zero, List.set_cons_succ])
    refine wpAnyH_take (i := 8) (oi := ?oi_00_8) (v := undef) ?hi_00_8 (by kernel_rfl) (by kernel_rfl) (by kernel_rfl) (fun _ _ _ h => h) (Or.inr ⟨?wt_00_8, rfl⟩) (by assumption) ?rest_00_8
    case hi_00_8 => (simp only [List.getElem?_toArray, List.getElem?_cons_succ, List.getElem?_cons_zero]; rfl)
    case wt_00_8 => rfl
    (try simp only [Act.put, List.setIfInBounds_toArray, List.set_cons_zero, List.set_cons_succ])
    refine wpAnyH_take (i := 9) (oi := ?oi_00_9) (v := undef) ?hi_00_9 (by kernel_rfl) (by kernel_rfl) (by kernel_rfl) (fun _ _ _ h => h) (Or.inr ⟨?wt_00_9, rfl⟩) (by assumption) ?rest_00_9
    case hi_00_9 => (simp only [List.getElem?_toArray, List.getElem?_cons_succ, List.getElem?_cons_zero]; rfl)
    case wt_00_9 => rfl
    (try simp only [Act.put, List.setIfInBounds_toArray, List.set_cons_zero, List.set_cons_succ])
    refine wpAnyH_ready (rs := [10]) (by kernel_rfl) (by simp) ?_
    refine AllReadyH.cons (o := ?o_00_10) ?ho_00_10 (fun K hK => ?body_00_10) AllReadyH.nil
    case ho_00_10 => (simp only [List.getElem?_toArray, List.getElem?_cons_succ, List.getElem?_cons_zero]; rfl)
    refine not_wanted (by rfl) ?_
    refine hK.out _ _ ?_ (fun hHeld => ?_)
    · first | exact trivial | ((try dsimp only); exact trivial)
    clear hK K
    (try simp only [Act.put, List.setIfInBounds_toArray, List.set_cons_zero, List.set_cons_succ])
    refine wpAnyH_take (i := 11) (oi := ?oi_00_11) (v := undef) ?hi_00_11 (by kernel_rfl) (by kernel_rfl) (by kernel_rfl) (fun _ _ _ h => h) (Or.inr ⟨?wt_00_11, rfl⟩) (by assumption) ?rest_00_11
    case hi_00_11 => (simp only [List.getElem?_toArray, List.getElem?_cons_succ, List.getElem?_cons_zero]; rfl)
    case wt_00_11 => rfl
    (try simp only [Act.put, List.setIfInBounds_toArray, List.set_cons_zero, List.set_cons_succ])
    refine wpAnyH_take (i := 12) (oi := ?oi_00_12) (v := undef) ?hi_00_12 (by kernel_rfl) (by kernel_rfl) (by kernel_rfl) (fun _ _ _ h => h) (Or.inr ⟨?wt_00_12, rfl⟩) (by assumption) ?rest_00_12
    case hi_00_12 => (simp only [List.getElem?_toArray, List.getElem?_cons_succ, List.getElem?_cons_zero]; rfl)
    case wt_00_12 => rfl
    (try simp only [Act.put, List.setIfInBounds_toArray, List.set_cons_zero, List.set_cons_succ])
    refine wpAnyH_take (i := 13) (oi := ?oi_00_13) (v := undef) ?hi_00_13 (by kernel_rfl) (by kernel_rfl) (by kernel_rfl) (fun _ _ _ h => h) (Or.inr ⟨?wt_00_13, rfl⟩) (by assumption) ?rest_00_13
    case hi_00_13 => (simp only [List.getElem?_toArray, List.getElem?_cons_succ, List.getElem?_cons_zero]; rfl)
    case wt_00_13 => rfl
    (try simp only [Act.put, List.setIfInBounds_toArray, List.set_cons_zero, List.set_cons_succ])
    refine wpAnyH_take (i := 14) (oi := ?oi_00_14) (v := ?v_00_14) ?hi_00_14 (by kernel_rfl) (by kernel_rfl) (by kernel_rfl) (fun _ _ _ h => h) (Or.inl ⟨?wt_00_14, ?hy_00_14⟩) (by assumption) ?rest_00_14
    case hi_00_14 => (simp only [List.getElem?_toArray, List.getElem?_cons_succ, List.getElem?_cons_zero]; rfl)
    case wt_00_14 => rfl
    case hy_00_14 => (intro w hSw; (try dsimp only at hSw); go_simp) <;> (first | done | with_reducible rfl)
    (try simp only [Act.put, List.setIfInBounds_toArray, List.set_cons_zero, List.set_cons_succ])
    refine wpAnyH_take (i := 15) (oi := ?oi_00_15) (v := ?v_00_15) ?hi_00_15 (by kernel_rfl) (by kernel_rfl) (by kernel_rfl) (fun _ _ _ h => h) (Or.inl ⟨?wt_00_15, ?hy_00_15⟩) (by assumption) ?rest_00_15
    case hi_00_15 => (simp only [List.getElem?_toArray, List.getElem?_cons_succ, List.getElem?_cons_zero]; rfl)
    case wt_00_15 => rfl
    case hy_00_15 => (intro w hSw; (try dsimp only at hSw); go_simp) <;> (first | done | with_reducible rfl)
    (try simp only [Act.put, List.setIfInBounds_toArray, List.set_cons_zero, List.set_cons_succ])
    refine wpAnyH_take (i := 16) (oi := ?oi_00_16) (v := ?v_00_16) ?hi_00_16 (by kernel_rfl) (by kernel_rfl) (by kernel_rfl) (fun _ _ _ h => h) (Or.inl ⟨?wt_00_16, ?hy_00_16⟩) (by assumption) ?rest_00_16
    case hi_00_16 => (simp only [List.getElem?_toArray, List.getElem?_cons_succ, List.getElem?_cons_zero]; rfl)
    case wt_00_16 => rfl
    case hy_00_16 => (intro w hSw; (try dsimp only at hSw); go_simp) <;> (first | done | with_reducible rfl)
    (try simp only [Act.put, List.setIfInBounds_toArray, List.set_cons_zero, List.set_cons_succ])
    refine wpAnyH_take (i := 17) (oi := ?oi_00_17) (v := ?v_00_17) ?hi_00_17 (by kernel_rfl) (by kernel_rfl) (by kernel_rfl) (fun _ _ _ h => h) (Or.inl ⟨?wt_00_17, ?hy_00_17⟩) (by assumption) ?rest_00_17
    case hi_00_17 => (simp only [List.getElem?_toArray, List.getElem?_cons_succ, List.getElem?_cons_zero]; rfl)
    case wt_00_17 => rfl
    case hy_00_17 => (intro w hSw; (try dsimp only at hSw); go_simp) <;> (first | done | with_reducible rfl)
    (try simp only [Act.put, List.setIfInBounds_toArray, List.set_cons_zero, List.set_cons_succ])
    refine wpAnyH_take (i := 18) (oi := ?oi_00_18) (v := ?v_00_18) ?hi_00_18 (by kernel_rfl) (by kernel_rfl) (by kernel_rfl) (fun _ _ _ h => h) (Or.inl ⟨?wt_00_18, ?hy_00_18⟩) (by assumption) ?rest_00_18
    case hi_00_18 => (simp only [List.getElem?_toArray, List.getElem?_cons_succ, List.getElem?_cons_zero]; rfl)
    case wt_00_18 => rfl
    case hy_00_18 => (intro w hSw; (try dsimp only at hSw); go_simp) <;> (first | done | with_reducible rfl)
    (try simp only [Act.put, List.setIfInBounds_toArray, List.set_cons_zero, List.set_cons_succ])
    refine wpAnyH_take (i := 19) (oi := ?oi_00_19) (v := ?v_00_19) ?hi_00_19 (by kernel_rfl) (by kernel_rfl) (by kernel_rfl) (fun _ _ _ h => h) (Or.inl ⟨?wt_00_19, ?hy_00_19⟩) (by assumption) ?rest_00_19
    case hi_00_19 => (simp only [List.getElem?_toArray, List.getElem?_cons_succ, List.getElem?_cons_zero]; rfl)
    case wt_00_19 => rfl
    case hy_00_19 => (intro w hSw; (try dsimp only at hSw); go_simp) <;> (first | done | with_reducible rfl)
    (try simp only [Act.put, List.setIfInBounds_toArray, List.set_cons_zero, List.set_cons_succ])
    refine wpAnyH_take (i := 20) (oi := ?oi_00_20) (v := undef) ?hi_00_20 (by kernel_rfl) (by kernel_rfl) (by kernel_rfl) (fun _ _ _ h => h) (Or.inr ⟨?wt_00_20, rfl⟩) (by assumption) ?rest_00_20
    case hi_00_20 => (simp only [List.getElem?_toArray, List.getElem?_cons_succ, List.getElem?_cons_zero]; rfl)
    case wt_00_20 => rfl
    (try simp only [Act.put, List.setIfInBounds_toArray, List.set_cons_zero, List.set_cons_succ])
    refine wpAnyH_take (i := 21) (oi := ?oi_00_21) (v := undef) ?hi_00_21 (by kernel_rfl) (by kernel_rfl) (by kernel_rfl) (fun _ _ _ h => h) (Or.inr ⟨?wt_00_21, rfl⟩) (by assumption) ?rest_00_21
    case hi_00_21 => (simp only [List.getElem?_toArray, List.getElem?_cons_succ, List.getElem?_cons_zero]; rfl)
    case wt_00_21 => rfl
    (try simp only [Act.put, List.setIfInBounds_toArray, List.set_cons_zero, List.set_cons_succ])
    refine wpAnyH_take (i := 22) (oi := ?oi_00_22) (v := undef) ?hi_00_22 (by kernel_rfl) (by kernel_rfl) (by kernel_rfl) (fun _ _ _ h => h) (Or.inr ⟨?wt_00_22, rfl⟩) (by assumption) ?rest_00_22
    case hi_00_22 => (simp only [List.getElem?_toArray, List.getElem?_cons_succ, List.getElem?_cons_zero]; rfl)
    case wt_00_22 => rfl
    (try simp only [Act.put, List.setIfInBounds_toArray, List.set_cons_zero, List.set_cons_succ])
    refine wpAnyH_take (i := 23) (oi := ?oi_00_23) (v := undef) ?hi_00_23 (by kernel_rfl) (by kernel_rfl) (by kernel_rfl) (fun _ _ _ h => h) (Or.inr ⟨?wt_00_23, rfl⟩) (by assumption) ?rest_00_23
    case hi_00_23 => (simp only [List.getElem?_toArray, List.getElem?_cons_succ, List.getElem?_cons_zero]; rfl)
    case wt_00_23 => rfl
    (try simp only [Act.put, List.setIfInBounds_toArray, List.set_cons_zero, List.set_cons_succ])
    refine wpAnyH_take (i := 24) (oi := ?oi_00_24) (v := undef) ?hi_00_24 (by kernel_rfl) (by kernel_rfl) (by kernel_rfl) (fun _ _ _ h => h) (Or.inr ⟨?wt_00_24, rfl⟩) (by assumption) ?rest_00_24
    case hi_00_24 => (simp only [List.getElem?_toArray, List.getElem?_cons_succ, List.getElem?_cons_zero]; rfl)
    case wt_00_24 => rfl
    (try simp only [Act.put, List.setIfInBounds_toArray, List.set_cons_zero, List.set_cons_succ])
    refine wpAnyH_ready (rs := [25]) (by kernel_rfl) (by simp) ?_
    refine AllReadyH.cons (o := ?o_00_25) ?ho_00_25 (fun K hK => ?body_00_25) AllReadyH.nil
    case ho_00_25 => (simp only [List.getElem?_toArray, List.getElem?_cons_succ, List.getElem?_cons_zero]; rfl)
    refine not_wanted (by rfl) ?_
    refine hK.out _ _ ?_ (fun hHeld => ?_)
    · first | exact trivial | ((try dsimp only); exact trivial)
    clear hK K
    (try simp only [Act.put, List.setIfInBounds_toArray, List.set_cons_zero, List.set_cons_succ])
    refine wpAnyH_take (i := 26) (oi := ?oi_00_26) (v := undef) ?hi_00_26 (by kernel_rfl) (by kernel_rfl) (by kernel_rfl) (fun _ _ _ h => h) (Or.inr ⟨?wt_00_26, rfl⟩) (by assumption) ?rest_00_26
    case hi_00_26 => (simp only [List.getElem?_toArray, List.getElem?_cons_succ, List.getElem?_cons_zero]; rfl)
    case wt_00_26 => rfl
    (try simp only [Act.put, List.setIfInBounds_toArray, List.set_cons_zero, List.set_cons_succ])
    refine wpAnyH_take (i := 27) (oi := ?oi_00_27) (v := undef) ?hi_00_27 (by kernel_rfl) (by kernel_rfl) (by kernel_rfl) (fun _ _ _ h => h) (Or.inr ⟨?wt_00_27, rfl⟩) (by assumption) ?rest_00_27
    case hi_00_27 => (simp only [List.getElem?_toArray, List.getElem?_cons_succ, List.getElem?_cons_zero]; rfl)
    case wt_00_27 => rfl
    (try simp only [Act.put, List.setIfInBounds_toArray, List.set_cons_zero, List.set_cons_succ])
    refine wpAnyH_take (i := 28) (oi := ?oi_00_28) (v := undef) ?hi_00_28 (by kernel_rfl) (by kernel_rfl) (by kernel_rfl) (fun _ _ _ h => h) (Or.inr ⟨?wt_00_28, rfl⟩) (by assumption) ?rest_00_28
    case hi_00_28 => (simp only [List.getElem?_toArray, List.getElem?_cons_succ, List.getElem?_cons_zero]; rfl)
    case wt_00_28 => rfl
    (try simp only [Act.put, List.setIfInBounds_toArray, List.set_cons_zero, List.set_cons_succ])
    refine wpAnyH_take (i := 29) (oi := ?oi_00_29) (v := ?v_00_29) ?hi_00_29 (by kernel_rfl) (by kernel_rfl) (by kernel_rfl) (fun _ _ _ h => h) (Or.inl ⟨?wt_00_29, ?hy_00_29⟩) (by assumption) ?rest_00_29
    case hi_00_29 => (simp only [List.getElem?_toArray, List.getElem?_cons_succ, List.getElem?_cons_zero]; rfl)
    case wt_00_29 => rfl
    case hy_00_29 => (intro w hSw; (try dsimp only at hSw); go_simp) <;> (first | done | with_reducible rfl)
    (try simp only [Act.put, List.setIfInBounds_toArray, List.set_cons_zero, List.set_cons_succ])
    refine wpAnyH_take (i := 30) (oi := ?oi_00_30) (v := ?v_00_30) ?hi_00_30 (by kernel_rfl) (by kernel_rfl) (by kernel_rfl) (fun _ _ _ h => h) (Or.inl ⟨?wt_00_30, ?hy_00_30⟩) (by assumption) ?rest_00_30
    case hi_00_30 => (simp only [List.getElem?_toArray, List.getElem?_cons_succ, List.getElem?_cons_zero]; rfl)
    case wt_00_30 => rfl
    case hy_00_30 => (intro w hSw; (try dsimp only at hSw); go_simp) <;> (first | done | with_reducible rfl)
    (try simp only [Act.put, List.setIfInBounds_toArray, List.set_cons_zero, List.set_cons_succ])
    refine wpAnyH_take (i := 31) (oi := ?oi_00_31) (v := ?v_00_31) ?hi_00_31 (by kernel_rfl) (by kernel_rfl) (by kernel_rfl) (fun _ _ _ h => h) (Or.inl ⟨?wt_00_31, ?hy_00_31⟩) (by assumption) ?rest_00_31
    case hi_00_31 => (simp only [List.getElem?_toArray, List.getElem?_cons_succ, List.getElem?_cons_zero]; rfl)
    case wt_00_31 => rfl
    case hy_00_31 => (intro w hSw; (try dsimp only at hSw); go_simp) <;> (first | done | with_reducible rfl)
    (try simp only [Act.put, List.setIfInBounds_toArray, List.set_cons_zero, List.set_cons_succ])
    refine wpAnyH_take (i := 32) (oi := ?oi_00_32) (v := ?v_00_32) ?hi_00_32 (by kernel_rfl) (by kernel_rfl) (by kernel_rfl) (fun _ _ _ h => h) (Or.inl ⟨?wt_00_32, ?hy_00_32⟩) (by assumption) ?rest_00_32
    case hi_00_32 => (simp only [List.getElem?_toArray, List.getElem?_cons_succ, List.getElem?_cons_zero]; rfl)
    case wt_00_32 => rfl
    case hy_00_32 => (intro w hSw; (try dsimp only at hSw); go_simp) <;> (first | done | with_reducible rfl)
    (try simp only [Act.put, List.setIfInBounds_toArray, List.set_cons_zero, List.set_cons_succ])
    refine wpAnyH_take (i := 33) (oi := ?oi_00_33) (v := ?v_00_33) ?hi_00_33 (by kernel_rfl) (by kernel_rfl) (by kernel_rfl) (fun _ _ _ h => h) (Or.inl ⟨?wt_00_33, ?hy_00_33⟩) (by assumption) ?rest_00_33
    case hi_00_33 => (simp only [List.getElem?_toArray, List.getElem?_cons_succ, List.getElem?_cons_zero]; rfl)
    case wt_00_33 => rfl
    case hy_00_33 => (intro w hSw; (try dsimp only at hSw); go_simp) <;> (first | done | with_reducible rfl)
    (try simp only [Act.put, List.setIfInBounds_toArray, List.set_cons_zero, List.set_cons_succ])
    refine wpAnyH_take (i := 34) (oi := ?oi_00_34) (v := ?v_00_34) ?hi_00_34 (by kernel_rfl) (by kernel_rfl) (by kernel_rfl) (fun _ _ _ h => h) (Or.inl ⟨?wt_00_34, ?hy_00_34⟩) (by assumption) ?rest_00_34
    case hi_00_34 => (simp only [List.getElem?_toArray, List.getElem?_cons_succ, List.getElem?_cons_zero]; rfl)
    case wt_00_34 => rfl
    case hy_00_34 => (intro w hSw; (try dsimp only at hSw); go_simp) <;> (first | done | with_reducible rfl)
    (try simp only [Act.put, List.setIfInBounds_toArray, List.set_cons_zero, List.set_cons_succ])
    refine wpAnyH_take (i := 35) (oi := ?oi_00_35) (v := ?v_00_35) ?hi_00_35 (by kernel_rfl) (by kernel_rfl) (by kernel_rfl) (fun _ _ _ h => h) (Or.inl ⟨?wt_00_35, ?hy_00_35⟩) (by assumption) ?rest_00_35
    case hi_00_35 => (simp only [List.getElem?_toArray, List.getElem?_cons_succ, List.getElem?_cons_zero]; rfl)
    case wt_00_35 => rfl
    case hy_00_35 => (intro w hSw; (try dsimp only at hSw); go_simp) <;> (first | done | with_reducible rfl)
    (try simp only [Act.put, List.setIfInBounds_toArray, List.set_cons_zero, List.set_cons_succ])
    refine wpAnyH_take (i := 36) (oi := ?oi_00_36) (v := ?v_00_36) ?hi_00_36 (by kernel_rfl) (by kernel_rfl) (by kernel_rfl) (fun _ _ _ h => h) (Or.inl ⟨?wt_00_36, ?hy_00_36⟩) (by assumption) ?rest_00_36
    case hi_00_36 => (simp only [List.getElem?_toArray, List.getElem?_cons_succ, List.getElem?_cons_zero]; rfl)
    case wt_00_36 => rfl
    case hy_00_36 => (intro w hSw; (try dsimp only at hSw); go_simp) <;> (first | done | with_reducible rfl)
    (try simp only [Act.put, List.setIfInBounds_toArray, List.set_cons_zero, List.set_cons_succ])
    refine wpAnyH_take (i := 37) (oi := ?oi_00_37) (v := ?v_00_37) ?hi_00_37 (by kernel_rfl) (by kernel_rfl) (by kernel_rfl) (fun _ _ _ h => h) (Or.inl ⟨?wt_00_37, ?hy_00_37⟩) (by assumption) ?rest_00_37
    case hi_00_37 => (simp only [List.getElem?_toArray, List.getElem?_cons_succ, List.getElem?_cons_zero]; rfl)
    case wt_00_37 => rfl
    case hy_00_37 => (intro w hSw; (try dsimp only at hSw); go_simp) <;> (first | done | with_reducible rfl)
    (try simp only [Act.put, List.setIfInBounds_toArray, List.set_cons_zero, List.set_cons_succ])
    refine wpAnyH_take (i := 38) (oi := ?oi_00_38) (v := ?v_00_38) ?hi_00_38 (by kernel_rfl) (by kernel_rfl) (by kernel_rfl) (fun _ _ _ h => h) (Or.inl ⟨?wt_00_38, ?hy_00_38⟩) (by assumption) ?rest_00_38
    case hi_00_38 => (simp only [List.getElem?_toArray, List.getElem?_cons_succ, List.getElem?_cons_zero]; rfl)
    case wt_00_38 => rfl
    case hy_00_38 => (intro w hSw; (try dsimp only at hSw); go_simp) <;> (first | done | with_reducible rfl)
    (try simp only [Act.put, List.setIfInBounds_toArray, List.set_cons_zero, List.set_cons_succ])
    refine wpAnyH_take (i := 39) (oi := ?oi_00_39) (v := ?v_00_39) ?hi_00_39 (by kernel_rfl) (by kernel_rfl) (by kernel_rfl) (fun _ _ _ h => h) (Or.inl ⟨?wt_00_39, ?hy_00_39⟩) (by assumption) ?rest_00_39
    case hi_00_39 => (simp only [List.getElem?_toArray, List.getElem?_cons_succ, List.getElem?_cons_zero]; rfl)
    case wt_00_39 => rfl
    case hy_00_39 => (intro w hSw; (try dsimp only at hSw); go_simp) <;> (first | done | with_reducible rfl)
    (try simp only [Act.put, List.setIfInBounds_toArray, List.set_cons_zero, List.set_cons_succ])
    refine wpAnyH_take (i := 40) (oi := ?oi_00_40) (v := ?v_00_40) ?hi_00_40 (by kernel_rfl) (by kernel_rfl) (by kernel_rfl) (fun _ _ _ h => h) (Or.inl ⟨?wt_00_40, ?hy_00_40⟩) (by assumption) ?rest_00_40
    case hi_00_40 => (simp only [List.getElem?_toArray, List.getElem?_cons_succ, List.getElem?_cons_zero]; rfl)
    case wt_00_40 => rfl
    case hy_00_40 => (intro w hSw; (try dsimp only at hSw); go_simp) <;> (first | done | with_reducible rfl)
    (try simp only [Act.put, List.setIfInBounds_toArray, List.set_cons_zero, List.set_cons_succ])
    refine wpAnyH_take (i := 41) (oi := ?oi_00_41) (v := ?v_00_41) ?hi_00_41 (by kernel_rfl) (by kernel_rfl) (by kernel_rfl) (fun _ _ _ h => h) (Or.inl ⟨?wt_00_41, ?hy_00_41⟩) (by assumption) ?rest_00_41
    case hi_00_41 => (simp only [List.getElem?_toArray, List.getElem?_cons_succ, List.getElem?_cons_zero]; rfl)
    case wt_00_41 => rfl
    case hy_00_41 => (intro w hSw; (try dsimp only at hSw); go_simp) <;> (first | done | with_reducible rfl)
    (try simp only [Act.put, List.setIfInBounds_toArray, List.set_cons_zero, List.set_cons_succ])
    refine wpAnyH_take (i := 42) (oi := ?oi_00_42) (v := ?v_00_42) ?hi_00_42 (by kernel_rfl) (by kernel_rfl) (by kernel_rfl) (fun _ _ _ h => h) (Or.inl ⟨?wt_00_42, ?hy_00_42⟩) (by assumption) ?rest_00_42
    case hi_00_42 => (simp only [List.getElem?_toArray, List.getElem?_cons_succ, List.getElem?_cons_zero]; rfl)
    case wt_00_42 => rfl
    case hy_00_42 => (intro w hSw; (try dsimp only at hSw); go_simp) <;> (first | done | with_reducible rfl)
    (try simp only [Act.put, List.setIfInBounds_toArray, List.set_cons_zero, List.set_cons_succ])
    refine wpAnyH_take (i := 43) (oi := ?oi_00_43) (v := ?v_00_43) ?hi_00_43 (by kernel_rfl) (by kernel_rfl) (by kernel_rfl) (fun _ _ _ h => h) (Or.inl ⟨?wt_00_43, ?hy_00_43⟩) (by assumption) ?rest_00_43
    case hi_00_43 => (simp only [List.getElem?_toArray, List.getElem?_cons_succ, List.getElem?_cons_zero]; rfl)
    case wt_00_43 => rfl
    case hy_00_43 => (intro w hSw; (try dsimp only at hSw); go_simp) <;> (first | done | with_reducible rfl)
    (try simp only [Act.put, List.setIfInBounds_toArray, List.set_cons_zero, List.set_cons_succ])
    refine wpAnyH_take (i := 44) (oi := ?oi_00_44) (v := ?v_00_44) ?hi_00_44 (by kernel_rfl) (by kernel_rfl) (by kernel_rfl) (fun _ _ _ h => h) (Or.inl ⟨?wt_00_44, ?hy_00_44⟩) (by assumption) ?rest_00_44
    case hi_00_44 => (simp only [List.getElem?_toArray, List.getElem?_cons_succ, List.getElem?_cons_zero]; rfl)
    case wt_00_44 => rfl
    case hy_00_44 => (intro w hSw; (try dsimp only at hSw); go_simp) <;> (first | done | with_reducible rfl)
    (try simp only [Act.put, List.setIfInBounds_toArray, List.set_cons_zero, List.set_cons_succ])
    refine wpAnyH_take (i := 45) (oi := ?oi_00_45) (v := ?v_00_45) ?hi_00_45 (by kernel_rfl) (by kernel_rfl) (by kernel_rfl) (fun _ _ _ h => h) (Or.inl ⟨?wt_00_45, ?hy_00_45⟩) (by assumption) ?rest_00_45
    case hi_00_45 => (simp only [List.getElem?_toArray, List.getElem?_cons_succ, List.getElem?_cons_zero]; rfl)
    case wt_00_45 => rfl
    case hy_00_45 => (intro w hSw; (try dsimp only at hSw); go_simp) <;> (first | done | with_reducible rfl)
    (try simp only [Act.put, List.setIfInBounds_toArray, List.set_cons_zero, List.set_cons_succ])
    refine wpAnyH_take (i := 46) (oi := ?oi_00_46) (v := ?v_00_46) ?hi_00_46 (by kernel_rfl) (by kernel_rfl) (by kernel_rfl) (fun _ _ _ h => h) (Or.inl ⟨?wt_00_46, ?hy_00_46⟩) (by assumption) ?rest_00_46
    case hi_00_46 => (simp only [List.getElem?_toArray, List.getElem?_cons_succ, List.getElem?_cons_zero]; rfl)
    case wt_00_46 => rfl
    case hy_00_46 => (intro w hSw; (try dsimp only at hSw); go_simp) <;> (first | done | with_reducible rfl)
    (try simp only [Act.put, List.setIfInBounds_toArray, List.set_cons_zero, List.set_cons_succ])
    refine wpAnyH_take (i := 47) (oi := ?oi_00_47) (v := ?v_00_47) ?hi_00_47 (by kernel_rfl) (by kernel_rfl) (by kernel_rfl) (fun _ _ _ h => h) (Or.inl ⟨?wt_00_47, ?hy_00_47⟩) (by assumption) ?rest_00_47
    case hi_00_47 => (simp only [List.getElem?_toArray, List.getElem?_cons_succ, List.getElem?_cons_zero]; rfl)
    case wt_00_47 => rfl
    case hy_00_47 => (intro w hSw; (try dsimp only at hSw); go_simp) <;> (first | done | with_reducible rfl)
    (try simp only [Act.put, List.setIfInBounds_toArray, List.set_cons_zero, List.set_cons_succ])
    refine wpAnyH_done (by kernel_rfl) ?_ _
    refine NoPanic.normal ?_
    go_wp2
    go_ret
    exact ⟨rfl, HB9.out.drew⟩
  · clear C1 C2
    subst h1 h1x
    simp only [Option.isSome_none]
    obtain ⟨iy, hiy⟩ : ∃ b, y.isSome = b := ⟨_, rfl⟩
    rw [hiy]
    clear hiy
    rw [h2]
    subst h2z
    simp only [Option.isSome_some, Option.getD_some] at HO9 ⊢
    obtain ⟨A9, c9, hv9⟩ := Kd.N_slice HO9.out
    subst hv9
    have e9 := byte_string (HO9.out.drew).rd
    clear h2
    simp only [List.length_nil]
    go_wp2_with fail
    refine wp_region_noPanic ?_
    refine wp_region_held_drew (S := (fun W => (convert 22 9 (.slice A9 l.length c9)).run Tryd.prog W = .ok (.string ⟨l.toArray⟩) W)) (by kernel_rfl) ?_ (fun hHeld => ?_)
    · first | exact trivial | ((try dsimp only); exact e9)
    refine wpAnyH_take (i := 0) (oi := ?oi_01_0) (v := ?v_01_0) ?hi_01_0 (by kernel_rfl) (by kernel_rfl) (by kernel_rfl) (fun _ _ _ h => h) (Or.inl ⟨?wt_01_0, ?hy_01_0⟩) (by assumption) ?rest_01_0
    case hi_01_0 => (simp only [List.getElem?_toArray, List.getElem?_cons_succ, List.getElem?_cons_zero]; rfl)
    case wt_01_0 => rfl
    case hy_01_0 => (intro w hSw; (try dsimp only at hSw); go_simp) <;> (first | done | with_reducible rfl)
    (try simp only [Act.put, List.setIfInBounds_toArray, List.set_cons_zero, List.set_cons_succ])
    refine wpAnyH_take (i := 1) (oi := ?oi_01_1) (v := ?v_01_1) ?hi_01_1 (by kernel_rfl) (by kernel_rfl) (by kernel_rfl) (fun _ _ _ h => h) (Or.inl ⟨?wt_01_1, ?hy_01_1⟩) (by assumption) ?rest_01_1
    case hi_01_1 => (simp only [List.getElem?_toArray, List.getElem?_cons_succ, List.getElem?_cons_zero]; rfl)
    case wt_01_1 => rfl
    case hy_01_1 => (intro w hSw; (try dsimp only at hSw); go_simp) <;> (first | done | with_reducible rfl)
    (try simp only [Act.put, List.setIfInBounds_toArray, List.set_cons_zero, List.set_cons_succ])
    refine wpAnyH_take (i := 2) (oi := ?oi_01_2) (v := ?v_01_2) ?hi_01_2 (by kernel_rfl) (by kernel_rfl) (by kernel_rfl) (fun _ _ _ h => h) (Or.inl ⟨?wt_01_2, ?hy_01_2⟩) (by assumption) ?rest_01_2
    case hi_01_2 => (simp only [List.getElem?_toArray, List.getElem?_cons_succ, List.getElem?_cons_zero]; rfl)
    case wt_01_2 => rfl
    case hy_01_2 => (intro w hSw; (try dsimp only at hSw); go_simp) <;> (first | done | with_reducible rfl)
    (try simp only [Act.put, List.setIfInBounds_toArray, List.set_cons_zero, List.set_cons_succ])
    refine wpAnyH_take (i := 3) (oi := ?oi_01_3) (v := ?v_01_3) ?hi_01_3 (by kernel_rfl) (by kernel_rfl) (by kernel_rfl) (fun _ _ _ h => h) (Or.inl ⟨?wt_01_3, ?hy_01_3⟩) (by assumption) ?rest_01_3
    case hi_01_3 => (simp only [List.getElem?_toArray, List.getElem?_cons_succ, List.getElem?_cons_zero]; rfl)
    case wt_01_3 => rfl
    case hy_01_3 => (intro w hSw; (try dsimp only at hSw); go_simp) <;> (first | done | with_reducible rfl)
    (try simp only [Act.put, List.setIfInBounds_toArray, List.set_cons_zero, List.set_cons_succ])
    refine wpAnyH_take (i := 4) (oi := ?oi_01_4) (v := ?v_01_4) ?hi_01_4 (by kernel_rfl) (by kernel_rfl) (by kernel_rfl) (fun _ _ _ h => h) (Or.inl ⟨?wt_01_4, ?hy_01_4⟩) (by assumption) ?rest_01_4
    case hi_01_4 => (simp only [List.getElem?_toArray, List.getElem?_cons_succ, List.getElem?_cons_zero]; rfl)
    case wt_01_4 => rfl
    case hy_01_4 => (intro w hSw; (try dsimp only at hSw); go_simp) <;> (first | done | with_reducible rfl)
    (try simp only [Act.put, List.setIfInBounds_toArray, List.set_cons_zero, List.set_cons_succ])
    refine wpAnyH_take (i := 5) (oi := ?oi_01_5) (v := undef) ?hi_01_5 (by kernel_rfl) (by kernel_rfl) (by kernel_rfl) (fun _ _ _ h => h) (Or.inr ⟨?wt_01_5, rfl⟩) (by assumption) ?rest_01_5
    case hi_01_5 => (simp only [List.getElem?_toArray, List.getElem?_cons_succ, List.getElem?_cons_zero]; rfl)
    case wt_01_5 => rfl
    (try simp only [Act.put, List.setIfInBounds_toArray, List.set_cons_zero, List.set_cons_succ])
    refine wpAnyH_take (i := 6) (oi := ?oi_01_6) (v := undef) ?hi_01_6 (by kernel_rfl) (by kernel_rfl) (by kernel_rfl) (fun _ _ _ h => h) (Or.inr ⟨?wt_01_6, rfl⟩) (by assumption) ?rest_01_6
    case hi_01_6 => (simp only [List.getElem?_toArray, List.getElem?_cons_succ, List.getElem?_cons_zero]; rfl)
    case wt_01_6 => rfl
    (try simp only [Act.put, List.setIfInBounds_toArray, List.set_cons_zero, List.set_cons_succ])
    refine wpAnyH_take (i := 7) (oi := ?oi_01_7) (v := undef) ?hi_01_7 (by kernel_rfl) (by kernel_rfl) (by kernel_rfl) (fun _ _ _ h => h) (Or.inr ⟨?wt_01_7, rfl⟩) (by assumption) ?rest_01_7
    case hi_01_7 => (simp only [List.getElem?_toArray, List.getElem?_cons_succ, List.getElem?_cons_zero]; rfl)
    case wt_01_7 => rfl
    (try simp only [Act.put, List.setIfInBounds_toArray, List.set_cons_zero, List.set_cons_succ])
    refine wpAnyH_take (i := 8) (oi := ?oi_01_8) (v := undef) ?hi_01_8 (by kernel_rfl) (by kernel_rfl) (by kernel_rfl) (fun _ _ _ h => h) (Or.inr ⟨?wt_01_8, rfl⟩) (by assumption) ?rest_01_8
    case hi_01_8 => (simp only [List.getElem?_toArray, List.getElem?_cons_succ, List.getElem?_cons_zero]; rfl)
    case wt_01_8 => rfl
    (try simp only [Act.put, List.setIfInBounds_toArray, List.set_cons_zero, List.set_cons_succ])
    refine wpAnyH_take (i := 9) (oi := ?oi_01_9) (v := undef) ?hi_01_9 (by kernel_rfl) (by kernel_rfl) (by kernel_rfl) (fun _ _ _ h => h) (Or.inr ⟨?wt_01_9, rfl⟩) (by assumption) ?rest_01_9
    case hi_01_9 => (simp only [List.getElem?_toArray, List.getElem?_cons_succ, List.getElem?_cons_zero]; rfl)
    case wt_01_9 => rfl
    (try simp only [Act.put, List.setIfInBounds_toArray, List.set_cons_zero, List.set_cons_succ])
    refine wpAnyH_ready (rs := [10]) (by kernel_rfl) (by simp) ?_
    refine AllReadyH.cons (o := ?o_01_10) ?ho_01_10 (fun K hK => ?body_01_10) AllReadyH.nil
    case ho_01_10 => (simp only [List.getElem?_toArray, List.getElem?_cons_succ, List.getElem?_cons_zero]; rfl)
    refine not_wanted (by rfl) ?_
    refine hK.out _ _ ?_ (fun hHeld => ?_)
    · first | exact trivial | ((try dsimp only); exact e9)
    clear hK K
    (try simp only [Act.put, List.setIfInBounds_toArray, List.set_cons_zero, List.set_cons_succ])
    refine wpAnyH_take (i := 11) (oi := ?oi_01_11) (v := undef) ?hi_01_11 (by kernel_rfl) (by kernel_rfl) (by kernel_rfl) (fun _ _ _ h => h) (Or.inr ⟨?wt_01_11, rfl⟩) (by assumption) ?rest_01_11
    case hi_01_11 => (simp only [List.getElem?_toArray, List.getElem?_cons_succ, List.getElem?_cons_zero]; rfl)
    case wt_01_11 => rfl
    (try simp only [Act.put, List.setIfInBounds_toArray, List.set_cons_zero, List.set_cons_succ])
    refine wpAnyH_take (i := 12) (oi := ?oi_01_12) (v := undef) ?hi_01_12 (by kernel_rfl) (by kernel_rfl) (by kernel_rfl) (fun _ _ _ h => h) (Or.inr ⟨?wt_01_12, rfl⟩) (by assumption) ?rest_01_12
    case hi_01_12 => (simp only [List.getElem?_toArray, List.getElem?_cons_succ, List.getElem?_cons_zero]; rfl)
    case wt_01_12 => rfl
    (try simp only [Act.put, List.setIfInBounds_toArray, List.set_cons_zero, List.set_cons_succ])
    refine wpAnyH_take (i := 13) (oi := ?oi_01_13) (v := undef) ?hi_01_13 (by kernel_rfl) (by kernel_rfl) (by kernel_rfl) (fun _ _ _ h => h) (Or.inr ⟨?wt_01_13, rfl⟩) (by assumption) ?rest_01_13
    case hi_01_13 => (simp only [List.getElem?_toArray, List.getElem?_cons_succ, List.getElem?_cons_zero]; rfl)
    case wt_01_13 => rfl
    (try simp only [Act.put, List.setIfInBounds_toArray, List.set_cons_zero, List.set_cons_succ])
    refine wpAnyH_take (i := 14) (oi := ?oi_01_14) (v := ?v_01_14) ?hi_01_14 (by kernel_rfl) (by kernel_rfl) (by kernel_rfl) (fun _ _ _ h => h) (Or.inl ⟨?wt_01_14, ?hy_01_14⟩) (by assumption) ?rest_01_14
    case hi_01_14 => (simp only [List.getElem?_toArray, List.getElem?_cons_succ, List.getElem?_cons_zero]; rfl)
    case wt_01_14 => rfl
    case hy_01_14 => (intro w hSw; (try dsimp only at hSw); go_simp) <;> (first | done | with_reducible rfl)
    (try simp only [Act.put, List.setIfInBounds_toArray, List.set_cons_zero, List.set_cons_succ])
    refine wpAnyH_take (i := 15) (oi := ?oi_01_15) (v := ?v_01_15) ?hi_01_15 (by kernel_rfl) (by kernel_rfl) (by kernel_rfl) (fun _ _ _ h => h) (Or.inl ⟨?wt_01_15, ?hy_01_15⟩) (by assumption) ?rest_01_15
    case hi_01_15 => (simp only [List.getElem?_toArray, List.getElem?_cons_succ, List.getElem?_cons_zero]; rfl)
    case wt_01_15 => rfl
    case hy_01_15 => (intro w hSw; (try dsimp only at hSw); go_simp) <;> (first | done | with_reducible rfl)
    (try simp only [Act.put, List.setIfInBounds_toArray, List.set_cons_zero, List.set_cons_succ])
    refine wpAnyH_take (i := 16) (oi := ?oi_01_16) (v := ?v_01_16) ?hi_01_16 (by kernel_rfl) (by kernel_rfl) (by kernel_rfl) (fun _ _ _ h => h) (Or.inl ⟨?wt_01_16, ?hy_01_16⟩) (by assumption) ?rest_01_16
    case hi_01_16 => (simp only [List.getElem?_toArray, List.getElem?_cons_succ, List.getElem?_cons_zero]; rfl)
    case wt_01_16 => rfl
    case hy_01_16 => (intro w hSw; (try dsimp only at hSw); go_simp) <;> (first | done | with_reducible rfl)
    (try simp only [Act.put, List.setIfInBounds_toArray, List.set_cons_zero, List.set_cons_succ])
    refine wpAnyH_take (i := 17) (oi := ?oi_01_17) (v := ?v_01_17) ?hi_01_17 (by kernel_rfl) (by kernel_rfl) (by kernel_rfl) (fun _ _ _ h => h) (Or.inl ⟨?wt_01_17, ?hy_01_17⟩) (by assumption) ?rest_01_17
    case hi_01_17 => (simp only [List.getElem?_toArray, List.getElem?_cons_succ, List.getElem?_cons_zero]; rfl)
    case wt_01_17 => rfl
    case hy_01_17 => (intro w hSw; (try dsimp only at hSw); go_simp) <;> (first | done | with_reducible rfl)
    (try simp only [Act.put, List.setIfInBounds_toArray, List.set_cons_zero, List.set_cons_succ])
    refine wpAnyH_take (i := 18) (oi := ?oi_01_18) (v := ?v_01_18) ?hi_01_18 (by kernel_rfl) (by kernel_rfl) (by kernel_rfl) (fun _ _ _ h => h) (Or.inl ⟨?wt_01_18, ?hy_01_18⟩) (by assumption) ?rest_01_18
    case hi_01_18 => (simp only [List.getElem?_toArray, List.getElem?_cons_succ, List.getElem?_cons_zero]; rfl)
    case wt_01_18 => rfl
    case hy_01_18 => (intro w hSw; (try dsimp only at hSw); go_simp) <;> (first | done | with_reducible rfl)
    (try simp only [Act.put, List.setIfInBounds_toArray, List.set_cons_zero, List.set_cons_succ])
    refine wpAnyH_take (i := 19) (oi := ?oi_01_19) (v := ?v_01_19) ?hi_01_19 (by kernel_rfl) (by kernel_rfl) (by kernel_rfl) (fun _ _ _ h => h) (Or.inl ⟨?wt_01_19, ?hy_01_19⟩) (by assumption) ?rest_01_19
    case hi_01_19 => (simp only [List.getElem?_toArray, List.getElem?_cons_succ, List.getElem?_cons_zero]; rfl)
    case wt_01_19 => rfl
    case hy_01_19 => (intro w hSw; (try dsimp only at hSw); go_simp) <;> (first | done | with_reducible rfl)
    (try simp only [Act.put, List.setIfInBounds_toArray, List.set_cons_zero, List.set_cons_succ])
    refine wpAnyH_take (i := 20) (oi := ?oi_01_20) (v := ?v_01_20) ?hi_01_20 (by kernel_rfl) (by kernel_rfl) (by kernel_rfl) (fun _ _ _ h => h) (Or.inl ⟨?wt_01_20, ?hy_01_20⟩) (by assumption) ?rest_01_20
    case hi_01_20 => (simp only [List.getElem?_toArray, List.getElem?_cons_succ, List.getElem?_cons_zero]; rfl)
    case wt_01_20 => rfl
    case hy_01_20 => (intro w hSw; (try dsimp only at hSw); go_simp) <;> (first | done | with_reducible rfl)
    (try simp only [Act.put, List.setIfInBounds_toArray, List.set_cons_zero, List.set_cons_succ])
    refine wpAnyH_take (i := 21) (oi := ?oi_01_21) (v := ?v_01_21) ?hi_01_21 (by kernel_rfl) (by kernel_rfl) (by kernel_rfl) (fun _ _ _ h => h) (Or.inl ⟨?wt_01_21, ?hy_01_21⟩) (by assumption) ?rest_01_21
    case hi_01_21 => (simp only [List.getElem?_toArray, List.getElem?_cons_succ, List.getElem?_cons_zero]; rfl)
    case wt_01_21 => rfl
    case hy_01_21 => (intro w hSw; (try dsimp only at hSw); go_simp) <;> (first | done | with_reducible rfl)
    (try simp only [Act.put, List.setIfInBounds_toArray, List.set_cons_zero, List.set_cons_succ])
    refine wpAnyH_take (i := 22) (oi := ?oi_01_22) (v := ?v_01_22) ?hi_01_22 (by kernel_rfl) (by kernel_rfl) (by kernel_rfl) (fun _ _ _ h => h) (Or.inl ⟨?wt_01_22, ?hy_01_22⟩) (by assumption) ?rest_01_22
    case hi_01_22 => (simp only [List.getElem?_toArray, List.getElem?_cons_succ, List.getElem?_cons_zero]; rfl)
    case wt_01_22 => rfl
    case hy_01_22 => (intro w hSw; (try dsimp only at hSw); go_simp) <;> (first | done | with_reducible rfl)
    (try simp only [Act.put, List.setIfInBounds_toArray, List.set_cons_zero, List.set_cons_succ])
    refine wpAnyH_take (i := 23) (oi := ?oi_01_23) (v := ?v_01_23) ?hi_01_23 (by kernel_rfl) (by kernel_rfl) (by kernel_rfl) (fun _ _ _ h => h) (Or.inl ⟨?wt_01_23, ?hy_01_23⟩) (by assumption) ?rest_01_23
    case hi_01_23 => (simp only [List.getElem?_toArray, List.getElem?_cons_succ, List.getElem?_cons_zero]; rfl)
    case wt_01_23 => rfl
    case hy_01_23 => (intro w hSw; (try dsimp only at hSw); go_simp) <;> (first | done | with_reducible rfl)
    (try simp only [Act.put, List.setIfInBounds_toArray, List.set_cons_zero, List.set_cons_succ])
    refine wpAnyH_take (i := 24) (oi := ?oi_01_24) (v := ?v_01_24) ?hi_01_24 (by kernel_rfl) (by kernel_rfl) (by kernel_rfl) (fun _ _ _ h => h) (Or.inl ⟨?wt_01_24, ?hy_01_24⟩) (by assumption) ?rest_01_24
    case hi_01_24 => (simp only [List.getElem?_toArray, List.getElem?_cons_succ, List.getElem?_cons_zero]; rfl)
    case wt_01_24 => rfl
    case hy_01_24 => (intro w hSw; (try dsimp only at hSw); go_simp) <;> (first | done | with_reducible rfl)
    (try simp only [Act.put, List.setIfInBounds_toArray, List.set_cons_zero, List.set_cons_succ])
    refine wpAnyH_ready (rs := [25]) (by kernel_rfl) (by simp) ?_
    refine AllReadyH.cons rfl (fun K hK => ?_) AllReadyH.nil
    go_simp
    (go_at_call 7; refine (few08_any _ _ _ HRd2.out).mono ?_; rintro e wf ⟨vf2, rfl, hrf, rfl⟩; rw [HLL.out] at hrf; obtain ⟨Af2, cf2, hvf⟩ := Kd.V_slice hrf; subst hvf; have ef2 := byte_string hrf)
    go_wp2_with fail
    refine hK.out _ _ ?_ (fun hHeld => ?_)
    · first | exact trivial | ((try dsimp only); exact e9)
    clear hK K
    (try simp only [Act.put, List.setIfInBounds_toArray, List.set_cons_zero, List.set_cons_succ])
    refine wpAnyH_ready (rs := [26]) (by kernel_rfl) (by simp) ?_
    refine AllReadyH.cons rfl (fun K hK => ?_) AllReadyH.nil
    go_simp
    refine hK.out _ _ ?_ (fun hHeld => ?_)
    · first | exact trivial | ((try dsimp only); exact e9)
    clear hK K
    (try simp only [Act.put, List.setIfInBounds_toArray, List.set_cons_zero, List.set_cons_succ])
    refine wpAnyH_take (i := 27) (oi := ?oi_01_27) (v := ?v_01_27) ?hi_01_27 (by kernel_rfl) (by kernel_rfl) (by kernel_rfl) (fun _ _ _ h => h) (Or.inl ⟨?wt_01_27, ?hy_01_27⟩) (by assumption) ?rest_01_27
    case hi_01_27 => (simp only [List.getElem?_toArray, List.getElem?_cons_succ, List.getElem?_cons_zero]; rfl)
    case wt_01_27 => rfl
    case hy_01_27 => (intro w hSw; (try dsimp only at hSw); go_simp) <;> (first | done | with_reducible rfl)
    (try simp only [Act.put, List.setIfInBounds_toArray, List.set_cons_zero, List.set_cons_succ])
    refine wpAnyH_take (i := 28) (oi := ?oi_01_28) (v := ?v_01_28) ?hi_01_28 (by kernel_rfl) (by kernel_rfl) (by kernel_rfl) (fun _ _ _ h => h) (Or.inl ⟨?wt_01_28, ?hy_01_28⟩) (by assumption) ?rest_01_28
    case hi_01_28 => (simp only [List.getElem?_toArray, List.getElem?_cons_succ, List.getElem?_cons_zero]; rfl)
    case wt_01_28 => rfl
    case hy_01_28 => (intro w hSw; (try dsimp only at hSw); go_simp) <;> (first | done | with_reducible rfl)
    (try simp only [Act.put, List.setIfInBounds_toArray, List.set_cons_zero, List.set_cons_succ])
    refine wpAnyH_take (i := 29) (oi := ?oi_01_29) (v := ?v_01_29) ?hi_01_29 (by kernel_rfl) (by kernel_rfl) (by kernel_rfl) (fun _ _ _ h => h) (Or.inl ⟨?wt_01_29, ?hy_01_29⟩) (by assumption) ?rest_01_29
    case hi_01_29 => (simp only [List.getElem?_toArray, List.getElem?_cons_succ, List.getElem?_cons_zero]; rfl)
    case wt_01_29 => rfl
    case hy_01_29 => (intro w hSw; (try dsimp only at hSw); go_simp) <;> (first | done | with_reducible rfl)
    (try simp only [Act.put, List.setIfInBounds_toArray, List.set_cons_zero, List.set_cons_succ])
    refine wpAnyH_take (i := 30) (oi := ?oi_01_30) (v := ?v_01_30) ?hi_01_30 (by kernel_rfl) (by kernel_rfl) (by kernel_rfl) (fun _ _ _ h => h) (Or.inl ⟨?wt_01_30, ?hy_01_30⟩) (by assumption) ?rest_01_30
    case hi_01_30 => (simp only [List.getElem?_toArray, List.getElem?_cons_succ, List.getElem?_cons_zero]; rfl)
    case wt_01_30 => rfl
    case hy_01_30 => (intro w hSw; (try dsimp only at hSw); go_simp) <;> (first | done | with_reducible rfl)
    (try simp only [Act.put, List.setIfInBounds_toArray, List.set_cons_zero, List.set_cons_succ])
    refine wpAnyH_take (i := 31) (oi := ?oi_01_31) (v := ?v_01_31) ?hi_01_31 (by kernel_rfl) (by kernel_rfl) (by kernel_rfl) (fun _ _ _ h => h) (Or.inl ⟨?wt_01_31, ?hy_01_31⟩) (by assumption) ?rest_01_31
    case hi_01_31 => (simp only [List.getElem?_toArray, List.getElem?_cons_succ, List.getElem?_cons_zero]; rfl)
    case wt_01_31 => rfl
    case hy_01_31 => (intro w hSw; (try dsimp only at hSw); go_simp) <;> (first | done | with_reducible rfl)
    (try simp only [Act.put, List.setIfInBounds_toArray, List.set_cons_zero, List.set_cons_succ])
    refine wpAnyH_take (i := 32) (oi := ?oi_01_32) (v := ?v_01_32) ?hi_01_32 (by kernel_rfl) (by kernel_rfl) (by kernel_rfl) (fun _ _ _ h => h) (Or.inl ⟨?wt_01_32, ?hy_01_32⟩) (by assumption) ?rest_01_32
    case hi_01_32 => (simp only [List.getElem?_toArray, List.getElem?_cons_succ, List.getElem?_cons_zero]; rfl)
    case wt_01_32 => rfl
    case hy_01_32 => (intro w hSw; (try dsimp only at hSw); go_simp) <;> (first | done | with_reducible rfl)
    (try simp only [Act.put, List.setIfInBounds_toArray, List.set_cons_zero, List.set_cons_succ])
    refine wpAnyH_take (i := 33) (oi := ?oi_01_33) (v := ?v_01_33) ?hi_01_33 (by kernel_rfl) (by kernel_rfl) (by kernel_rfl) (fun _ _ _ h => h) (Or.inl ⟨?wt_01_33, ?hy_01_33⟩) (by assumption) ?rest_01_33
    case hi_01_33 => (simp only [List.getElem?_toArray, List.getElem?_cons_succ, List.getElem?_cons_zero]; rfl)
    case wt_01_33 => rfl
    case hy_01_33 => (intro w hSw; (try dsimp only at hSw); go_simp) <;> (first | done | with_reducible rfl)
    (try simp only [Act.put, List.setIfInBounds_toArray, List.set_cons_zero, List.set_cons_succ])
    refine wpAnyH_take (i := 34) (oi := ?oi_01_34) (v := ?v_01_34) ?hi_01_34 (by kernel_rfl) (by kernel_rfl) (by kernel_rfl) (fun _ _ _ h => h) (Or.inl ⟨?wt_01_34, ?hy_01_34⟩) (by assumption) ?rest_01_34
    case hi_01_34 => (simp only [List.getElem?_toArray, List.getElem?_cons_succ, List.getElem?_cons_zero]; rfl)
    case wt_01_34 => rfl
    case hy_01_34 => (intro w hSw; (try dsimp only at hSw); go_simp) <;> (first | done | with_reducible rfl)
    (try simp only [Act.put, List.setIfInBounds_toArray, List.set_cons_zero, List.set_cons_succ])
    refine wpAnyH_take (i := 35) (oi := ?oi_01_35) (v := ?v_01_35) ?hi_01_35 (by kernel_rfl) (by kernel_rfl) (by kernel_rfl) (fun _ _ _ h => h) (Or.inl ⟨?wt_01_35, ?hy_01_35⟩) (by assumption) ?rest_01_35
    case hi_01_35 => (simp only [List.getElem?_toArray, List.getElem?_cons_succ, List.getElem?_cons_zero]; rfl)
    case wt_01_35 => rfl
    case hy_01_35 => (intro w hSw; (try dsimp only at hSw); go_simp) <;> (first | done | with_reducible rfl)
    (try simp only [Act.put, List.setIfInBounds_toArray, List.set_cons_zero, List.set_cons_succ])
    refine wpAnyH_take (i := 36) (oi := ?oi_01_36) (v := ?v_01_36) ?hi_01_36 (by kernel_rfl) (by kernel_rfl) (by kernel_rfl) (fun _ _ _ h => h) (Or.inl ⟨?wt_01_36, ?hy_01_36⟩) (by assumption) ?rest_01_36
    case hi_01_36 => (simp only [List.getElem?_toArray, List.getElem?_cons_succ, List.getElem?_cons_zero]; rfl)
    case wt_01_36 => rfl
    case hy_01_36 => (intro w hSw; (try dsimp only at hSw); go_simp) <;> (first | done | with_reducible rfl)
    (try simp only [Act.put, List.setIfInBounds_toArray, List.set_cons_zero, List.set_cons_succ])
    refine wpAnyH_take (i := 37) (oi := ?oi_01_37) (v := ?v_01_37) ?hi_01_37 (by kernel_rfl) (by kernel_rfl) (by kernel_rfl) (fun _ _ _ h => h) (Or.inl ⟨?wt_01_37, ?hy_01_37⟩) (by assumption) ?rest_01_37
    case hi_01_37 => (simp only [List.getElem?_toArray, List.getElem?_cons_succ, List.getElem?_cons_zero]; rfl)
    case wt_01_37 => rfl
    case hy_01_37 => (intro w hSw; (try dsimp only at hSw); go_simp) <;> (first | done | with_reducible rfl)
    (try simp only [Act.put, List.setIfInBounds_toArray, List.set_cons_zero, List.set_cons_succ])
    refine wpAnyH_take (i := 38) (oi := ?oi_01_38) (v := ?v_01_38) ?hi_01_38 (by kernel_rfl) (by kernel_rfl) (by kernel_rfl) (fun _ _ _ h => h) (Or.inl ⟨?wt_01_38, ?hy_01_38⟩) (by assumption) ?rest_01_38
    case hi_01_38 => (simp only [List.getElem?_toArray, List.getElem?_cons_succ, List.getElem?_cons_zero]; rfl)
    case wt_01_38 => rfl
    case hy_01_38 => (intro w hSw; (try dsimp only at hSw); go_simp) <;> (first | done | with_reducible rfl)
    (try simp only [Act.put, List.setIfInBounds_toArray, List.set_cons_zero, List.set_cons_succ])
    refine wpAnyH_take (i := 39) (oi := ?oi_01_39) (v := ?v_01_39) ?hi_01_39 (by kernel_rfl) (by kernel_rfl) (by kernel_rfl) (fun _ _ _ h => h) (Or.inl ⟨?wt_01_39, ?hy_01_39⟩) (by assumption) ?rest_01_39
    case hi_01_39 => (simp only [List.getElem?_toArray, List.getElem?_cons_succ, List.getElem?_cons_zero]; rfl)
    case wt_01_39 => rfl
    case hy_01_39 => (intro w hSw; (try dsimp only at hSw); go_simp) <;> (first | done | with_reducible rfl)
    (try simp only [Act.put, List.setIfInBounds_toArray, List.set_cons_zero, List.set_cons_succ])
    refine wpAnyH_take (i := 40) (oi := ?oi_01_40) (v := ?v_01_40) ?hi_01_40 (by kernel_rfl) (by kernel_rfl) (by kernel_rfl) (fun _ _ _ h => h) (Or.inl ⟨?wt_01_40, ?hy_01_40⟩) (by assumption) ?rest_01_40
    case hi_01_40 => (simp only [List.getElem?_toArray, List.getElem?_cons_succ, List.getElem?_cons_zero]; rfl)
    case wt_01_40 => rfl
    case hy_01_40 => (intro w hSw; (try dsimp only at hSw); go_simp) <;> (first | done | with_reducible rfl)
    (try simp only [Act.put, List.setIfInBounds_toArray, List.set_cons_zero, List.set_cons_succ])
    refine wpAnyH_take (i := 41) (oi := ?oi_01_41) (v := ?v_01_41) ?hi_01_41 (by kernel_rfl) (by kernel_rfl) (by kernel_rfl) (fun _ _ _ h => h) (Or.inl ⟨?wt_01_41, ?hy_01_41⟩) (by assumption) ?rest_01_41
    case hi_01_41 => (simp only [List.getElem?_toArray, List.getElem?_cons_succ, List.getElem?_cons_zero]; rfl)
    case wt_01_41 => rfl
    case hy_01_41 => (intro w hSw; (try dsimp only at hSw); go_simp) <;> (first | done | with_reducible rfl)
    (try simp only [Act.put, List.setIfInBounds_toArray, List.set_cons_zero, List.set_cons_succ])
    refine wpAnyH_take (i := 42) (oi := ?oi_01_42) (v := undef) ?hi_01_42 (by kernel_rfl) (by kernel_rfl) (by kernel_rfl) (fun _ _ _ h => h) (Or.inr ⟨?wt_01_42, rfl⟩) (by assumption) ?rest_01_42
    case hi_01_42 => (simp only [List.getElem?_toArray, List.getElem?_cons_succ, List.getElem?_cons_zero]; rfl)
    case wt_01_42 => rfl
    (try simp only [Act.put, List.setIfInBounds_toArray, List.set_cons_zero, List.set_cons_succ])
    refine wpAnyH_take (i := 43) (oi := ?oi_01_43) (v := undef) ?hi_01_43 (by kernel_rfl) (by kernel_rfl) (by kernel_rfl) (fun _ _ _ h => h) (Or.inr ⟨?wt_01_43, rfl⟩) (by assumption) ?rest_01_43
    case hi_01_43 => (simp only [List.getElem?_toArray, List.getElem?_cons_succ, List.getElem?_cons_zero]; rfl)
    case wt_01_43 => rfl
    (try simp only [Act.put, List.setIfInBounds_toArray, List.set_cons_zero, List.set_cons_succ])
    refine wpAnyH_take (i := 44) (oi := ?oi_01_44) (v := undef) ?hi_01_44 (by kernel_rfl) (by kernel_rfl) (by kernel_rfl) (fun _ _ _ h => h) (Or.inr ⟨?wt_01_44, rfl⟩) (by assumption) ?rest_01_44
    case hi_01_44 => (simp only [List.getElem?_toArray, List.getElem?_cons_succ, List.getElem?_cons_zero]; rfl)
    case wt_01_44 => rfl
    (try simp only [Act.put, List.setIfInBounds_toArray, List.set_cons_zero, List.set_cons_succ])
    refine wpAnyH_take (i := 45) (oi := ?oi_01_45) (v := ?v_01_45) ?hi_01_45 (by kernel_rfl) (by kernel_rfl) (by kernel_rfl) (fun _ _ _ h => h) (Or.inl ⟨?wt_01_45, ?hy_01_45⟩) (by assumption) ?rest_01_45
    case hi_01_45 => (simp only [List.getElem?_toArray, List.getElem?_cons_succ, List.getElem?_cons_zero]; rfl)
    case wt_01_45 => rfl
    case hy_01_45 => (intro w hSw; (try dsimp only at hSw); go_simp) <;> (first | done | with_reducible rfl)
    (try simp only [Act.put, List.setIfInBounds_toArray, List.set_cons_zero, List.set_cons_succ])
    refine wpAnyH_take (i := 46) (oi := ?oi_01_46) (v := ?v_01_46) ?hi_01_46 (by kernel_rfl) (by kernel_rfl) (by kernel_rfl) (fun _ _ _ h => h) (Or.inl ⟨?wt_01_46, ?hy_01_46⟩) (by assumption) ?rest_01_46
    case hi_01_46 => (simp only [List.getElem?_toArray, List.getElem?_cons_succ, List.getElem?_cons_zero]; rfl)
    case wt_01_46 => rfl
    case hy_01_46 => (intro w hSw; (try dsimp only at hSw); go_simp) <;> (first | done | with_reducible rfl)
    (try simp only [Act.put, List.setIfInBounds_toArray, List.set_cons_zero, List.set_cons_succ])
    refine wpAnyH_take (i := 47) (oi := ?oi_01_47) (v := ?v_01_47) ?hi_01_47 (by kernel_rfl) (by kernel_rfl) (by kernel_rfl) (fun _ _ _ h => h) (Or.inl ⟨?wt_01_47, ?hy_01_47⟩) (by assumption) ?rest_01_47
    case hi_01_47 => (simp only [List.getElem?_toArray, List.getElem?_cons_succ, List.getElem?_cons_zero]; rfl)
    case wt_01_47 => rfl
    case hy_01_47 => (intro w hSw; (try dsimp only at hSw); go_simp) <;> (first | done | with_reducible rfl)
    (try simp only [Act.put, List.setIfInBounds_toArray, List.set_cons_zero, List.set_cons_succ])
    refine wpAnyH_done (by kernel_rfl) ?_ _
    refine NoPanic.normal ?_
    go_wp2
    go_ret
    exact ⟨rfl, HB9.out.drew⟩
  · clear C1 C2
    rw [h1]
    subst h1y
    simp only [Option.isSome_some, Option.getD_some] at HO59 ⊢
    obtain ⟨A5, c5, hv5⟩ := Kd.N_slice HO59.out
    subst hv5
    have e5 := byte_string (HO59.out.drew).rd
    subst h2 h2u
    simp only [Option.isSome_none]
    obtain ⟨iz, hiz⟩ : ∃ b, z.isSome = b := ⟨_, rfl⟩
    rw [hiz]
    clear hiz
    clear h1
    simp only [List.length_nil]
    go_wp2_with fail
    refine wp_region_noPanic ?_
    refine wp_region_held_drew (S := (fun W => (convert 22 9 (.slice A5 l.length c5)).run Tryd.prog W = .ok (.string ⟨l.toArray⟩) W)) (by kernel_rfl) ?_ (fun hHeld => ?_)
    · first | exact trivial | ((try dsimp only); exact e5)
    refine wpAnyH_take (i := 0) (oi := ?oi_10_0) (v := ?v_10_0) ?hi_10_0 (by kernel_rfl) (by kernel_rfl) (by kernel_rfl) (fun _ _ _ h => h) (Or.inl ⟨?wt_10_0, ?hy_10_0⟩) (by assumption) ?rest_10_0
    case hi_10_0 => (simp only [List.getElem?_toArray, List.getElem?_cons_succ, List.getElem?_cons_zero]; rfl)
    case wt_10_0 => rfl
    case hy_10_0 => (intro w hSw; (try dsimp only at hSw); go_simp) <;> (first | done | with_reducible rfl)
    (try simp only [Act.put, List.setIfInBounds_toArray, List.set_cons_zero, List.set_cons_succ])
    refine wpAnyH_take (i := 1) (oi := ?oi_10_1) (v := ?v_10_1) ?hi_10_1 (by kernel_rfl) (by kernel_rfl) (by kernel_rfl) (fun _ _ _ h => h) (Or.inl ⟨?wt_10_1, ?hy_10_1⟩) (by assumption) ?rest_10_1
    case hi_10_1 => (simp only [List.getElem?_toArray, List.getElem?_cons_succ, List.getElem?_cons_zero]; rfl)
    case wt_10_1 => rfl
    case hy_10_1 => (intro w hSw; (try dsimp only at hSw); go_simp) <;> (first | done | with_reducible rfl)
    (try simp only [Act.put, List.setIfInBounds_toArray, List.set_cons_zero, List.set_cons_succ])
    refine wpAnyH_take (i := 2) (oi := ?oi_10_2) (v := ?v_10_2) ?hi_10_2 (by kernel_rfl) (by kernel_rfl) (by kernel_rfl) (fun _ _ _ h => h) (Or.inl ⟨?wt_10_2, ?hy_10_2⟩) (by assumption) ?rest_10_2
    case hi_10_2 => (simp only [List.getElem?_toArray, List.getElem?_cons_succ, List.getElem?_cons_zero]; rfl)
    case wt_10_2 => rfl
    case hy_10_2 => (intro w hSw; (try dsimp only at hSw); go_simp) <;> (first | done | with_reducible rfl)
    (try simp only [Act.put, List.setIfInBounds_toArray, List.set_cons_zero, List.set_cons_succ])
    refine wpAnyH_take (i := 3) (oi := ?oi_10_3) (v := ?v_10_3) ?hi_10_3 (by kernel_rfl) (by kernel_rfl) (by kernel_rfl) (fun _ _ _ h => h) (Or.inl ⟨?wt_10_3, ?hy_10_3⟩) (by assumption) ?rest_10_3
    case hi_10_3 => (simp only [List.getElem?_toArray, List.getElem?_cons_succ, List.getElem?_cons_zero]; rfl)
    case wt_10_3 => rfl
    case hy_10_3 => (intro w hSw; (try dsimp only at hSw); go_simp) <;> (first | done | with_reducible rfl)
    (try simp only [Act.put, List.setIfInBounds_toArray, List.set_cons_zero, List.set_cons_succ])
    refine wpAnyH_take (i := 4) (oi := ?oi_10_4) (v := ?v_10_4) ?hi_10_4 (by kernel_rfl) (by kernel_rfl) (by kernel_rfl) (fun _ _ _ h => h) (Or.inl ⟨?wt_10_4, ?hy_10_4⟩) (by assumption) ?rest_10_4
    case hi_10_4 => (simp only [List.getElem?_toArray, List.getElem?_cons_succ, List.getElem?_cons_zero]; rfl)
    case wt_10_4 => rfl
    case hy_10_4 => (intro w hSw; (try dsimp only at hSw); go_simp) <;> (first | done | with_reducible rfl)
    (try simp only [Act.put, List.setIfInBounds_toArray, List.set_cons_zero, List.set_cons_succ])
    refine wpAnyH_take (i := 5) (oi := ?oi_10_5) (v := ?v_10_5) ?hi_10_5 (by kernel_rfl) (by kernel_rfl) (by kernel_rfl) (fun _ _ _ h => h) (Or.inl ⟨?wt_10_5, ?hy_10_5⟩) (by assumption) ?rest_10_5
    case hi_10_5 => (simp only [List.getElem?_toArray, List.getElem?_cons_succ, List.getElem?_cons_zero]; rfl)
    case wt_10_5 => rfl
    case hy_10_5 => (intro w hSw; (try dsimp only at hSw); go_simp) <;> (first | done | with_reducible rfl)
    (try simp only [Act.put, List.setIfInBounds_toArray, List.set_cons_zero, List.set_cons_succ])
    refine wpAnyH_take (i := 6) (oi := ?oi_10_6) (v := ?v_10_6) ?hi_10_6 (by kernel_rfl) (by kernel_rfl) (by kernel_rfl) (fun _ _ _ h => h) (Or.inl ⟨?wt_10_6, ?hy_10_6⟩) (by assumption) ?rest_10_6
    case hi_10_6 => (simp only [List.getElem?_toArray, List.getElem?_cons_succ, List.getElem?_cons_zero]; rfl)
    case wt_10_6 => rfl
    case hy_10_6 => (intro w hSw; (try dsimp only at hSw); go_simp) <;> (first | done | with_reducible rfl)
    (try simp only [Act.put, List.setIfInBounds_toArray, List.set_cons_zero, List.set_cons_succ])
    refine wpAnyH_take (i := 7) (oi := ?oi_10_7) (v := ?v_10_7) ?hi_10_7 (by kernel_rfl) (by kernel_rfl) (by kernel_rfl) (fun _ _ _ h => h) (Or.inl ⟨?wt_10_7, ?hy_10_7⟩) (by assumption) ?rest_10_7
    case hi_10_7 => (simp only [List.getElem?_toArray, List.getElem?_cons_succ, List.getElem?_cons_zero]; rfl)
    case wt_10_7 => rfl
    case hy_10_7 => (intro w hSw; (try dsimp only at hSw); go_simp) <;> (first | done | with_reducible rfl)
    (try simp only [Act.put, List.setIfInBounds_toArray, List.set_cons_zero, List.set_cons_succ])
    refine wpAnyH_take (i := 8) (oi := ?oi_10_8) (v := ?v_10_8) ?hi_10_8 (by kernel_rfl) (by kernel_rfl) (by kernel_rfl) (fun _ _ _ h => h) (Or.inl ⟨?wt_10_8, ?hy_10_8⟩) (by assumption) ?rest_10_8
    case hi_10_8 => (simp only [List.getElem?_toArray, List.getElem?_cons_succ, List.getElem?_cons_zero]; rfl)
    case wt_10_8 => rfl
    case hy_10_8 => (intro w hSw; (try dsimp only at hSw); go_simp) <;> (first | done | with_reducible rfl)
    (try simp only [Act.put, List.setIfInBounds_toArray, List.set_cons_zero, List.set_cons_succ])
    refine wpAnyH_take (i := 9) (oi := ?oi_10_9) (v := ?v_10_9) ?hi_10_9 (by kernel_rfl) (by kernel_rfl) (by kernel_rfl) (fun _ _ _ h => h) (Or.inl ⟨?wt_10_9, ?hy_10_9⟩) (by assumption) ?rest_10_9
    case hi_10_9 => (simp only [List.getElem?_toArray, List.getElem?_cons_succ, List.getElem?_cons_zero]; rfl)
    case wt_10_9 => rfl
    case hy_10_9 => (intro w hSw; (try dsimp only at hSw); go_simp) <;> (first | done | with_reducible rfl)
    (try simp only [Act.put, List.setIfInBounds_toArray, List.set_cons_zero, List.set_cons_succ])
    refine wpAnyH_ready (rs := [10]) (by kernel_rfl) (by simp) ?_
    refine AllReadyH.cons rfl (fun K hK => ?_) AllReadyH.nil
    go_simp
    (go_at_call 7; refine (few08_any _ _ _ HRd2.out).mono ?_; rintro e wf ⟨vf1, rfl, hrf, rfl⟩; rw [HLL.out] at hrf; obtain ⟨Af1, cf1, hvf⟩ := Kd.V_slice hrf; subst hvf; have ef1 := byte_string hrf)
    go_wp2_with fail
    refine hK.out _ _ ?_ (fun hHeld => ?_)
    · first | exact trivial | ((try dsimp only); exact e5)
    clear hK K
    (try simp only [Act.put, List.setIfInBounds_toArray, List.set_cons_zero, List.set_cons_succ])
    refine wpAnyH_ready (rs := [11]) (by kernel_rfl) (by simp) ?_
    refine AllReadyH.cons rfl (fun K hK => ?_) AllReadyH.nil
    go_simp
    refine hK.out _ _ ?_ (fun hHeld => ?_)
    · first | exact trivial | ((try dsimp only); exact e5)
    clear hK K
    (try simp only [Act.put, List.setIfInBounds_toArray, List.set_cons_zero, List.set_cons_succ])
    refine wpAnyH_take (i := 12) (oi := ?oi_10_12) (v := ?v_10_12) ?hi_10_12 (by kernel_rfl) (by kernel_rfl) (by kernel_rfl) (fun _ _ _ h => h) (Or.inl ⟨?wt_10_12, ?hy_10_12⟩) (by assumption) ?rest_10_12
    case hi_10_12 => (simp only [List.getElem?_toArray, List.getElem?_cons_succ, List.getElem?_cons_zero]; rfl)
    case wt_10_12 => rfl
    case hy_10_12 => (intro w hSw; (try dsimp only at hSw); go_simp) <;> (first | done | with_reducible rfl)
    (try simp only [Act.put, List.setIfInBounds_toArray, List.set_cons_zero, List.set_cons_succ])
    refine wpAnyH_take (i := 13) (oi := ?oi_10_13) (v := ?v_10_13) ?hi_10_13 (by kernel_rfl) (by kernel_rfl) (by kernel_rfl) (fun _ _ _ h => h) (Or.inl ⟨?wt_10_13, ?hy_10_13⟩) (by assumption) ?rest_10_13
    case hi_10_13 => (simp only [List.getElem?_toArray, List.getElem?_cons_succ, List.getElem?_cons_zero]; rfl)
    case wt_10_13 => rfl
    case hy_10_13 => (intro w hSw; (try dsimp only at hSw); go_simp) <;> (first | done | with_reducible rfl)
    (try simp only [Act.put, List.setIfInBounds_toArray, List.set_cons_zero, List.set_cons_succ])
    refine wpAnyH_take (i := 14) (oi := ?oi_10_14) (v := ?v_10_14) ?hi_10_14 (by kernel_rfl) (by kernel_rfl) (by kernel_rfl) (fun _ _ _ h => h) (Or.inl ⟨?wt_10_14, ?hy_10_14⟩) (by assumption) ?rest_10_14
    case hi_10_14 => (simp only [List.getElem?_toArray, List.getElem?_cons_succ, List.getElem?_cons_zero]; rfl)
    case wt_10_14 => rfl
    case hy_10_14 => (intro w hSw; (try dsimp only at hSw); go_simp) <;> (first | done | with_reducible rfl)
    (try simp only [Act.put, List.setIfInBounds_toArray, List.set_cons_zero, List.set_cons_succ])
    refine wpAnyH_take (i := 15) (oi := ?oi_10_15) (v := ?v_10_15) ?hi_10_15 (by kernel_rfl) (by kernel_rfl) (by kernel_rfl) (fun _ _ _ h => h) (Or.inl ⟨?wt_10_15, ?hy_10_15⟩) (by assumption) ?rest_10_15
    case hi_10_15 => (simp only [List.getElem?_toArray, List.getElem?_cons_succ, List.getElem?_cons_zero]; rfl)
    case wt_10_15 => rfl
    case hy_10_15 => (intro w hSw; (try dsimp only at hSw); go_simp) <;> (first | done | with_reducible rfl)
    (try simp only [Act.put, List.setIfInBounds_toArray, List.set_cons_zero, List.set_cons_succ])
    refine wpAnyH_take (i := 16) (oi := ?oi_10_16) (v := ?v_10_16) ?hi_10_16 (by kernel_rfl) (by kernel_rfl) (by kernel_rfl) (fun _ _ _ h => h) (Or.inl ⟨?wt_10_16, ?hy_10_16⟩) (by assumption) ?rest_10_16
    case hi_10_16 => (simp only [List.getElem?_toArray, List.getElem?_cons_succ, List.getElem?_cons_zero]; rfl)
    case wt_10_16 => rfl
    case hy_10_16 => (intro w hSw; (try dsimp only at hSw); go_simp) <;> (first | done | with_reducible rfl)
    (try simp only [Act.put, List.setIfInBounds_toArray, List.set_cons_zero, List.set_cons_succ])
    refine wpAnyH_take (i := 17) (oi := ?oi_10_17) (v := ?v_10_17) ?hi_10_17 (by kernel_rfl) (by kernel_rfl) (by kernel_rfl) (fun _ _ _ h => h) (Or.inl ⟨?wt_10_17, ?hy_10_17⟩) (by assumption) ?rest_10_17
    case hi_10_17 => (simp only [List.getElem?_toArray, List.getElem?_cons_succ, List.getElem?_cons_zero]; rfl)
    case wt_10_17 => rfl
    case hy_10_17 => (intro w hSw; (try dsimp only at hSw); go_simp) <;> (first | done | with_reducible rfl)
    (try simp only [Act.put, List.setIfInBounds_toArray, List.set_cons_zero, List.set_cons_succ])
    refine wpAnyH_take (i := 18) (oi := ?oi_10_18) (v := ?v_10_18) ?hi_10_18 (by kernel_rfl) (by kernel_rfl) (by kernel_rfl) (fun _ _ _ h => h) (Or.inl ⟨?wt_10_18, ?hy_10_18⟩) (by assumption) ?rest_10_18
    case hi_10_18 => (simp only [List.getElem?_toArray, List.getElem?_cons_succ, List.getElem?_cons_zero]; rfl)
    case wt_10_18 => rfl
    case hy_10_18 => (intro w hSw; (try dsimp only at hSw); go_simp) <;> (first | done | with_reducible rfl)
    (try simp only [Act.put, List.setIfInBounds_toArray, List.set_cons_zero, List.set_cons_succ])
    refine wpAnyH_take (i := 19) (oi := ?oi_10_19) (v := ?v_10_19) ?hi_10_19 (by kernel_rfl) (by kernel_rfl) (by kernel_rfl) (fun _ _ _ h => h) (Or.inl ⟨?wt_10_19, ?hy_10_19⟩) (by assumption) ?rest_10_19
    case hi_10_19 => (simp only [List.getElem?_toArray, List.getElem?_cons_succ, List.getElem?_cons_zero]; rfl)
    case wt_10_19 => rfl
    case hy_10_19 => (intro w hSw; (try dsimp only at hSw); go_simp) <;> (first | done | with_reducible rfl)
    (try simp only [Act.put, List.setIfInBounds_toArray, List.set_cons_zero, List.set_cons_succ])
    refine wpAnyH_take (i := 20) (oi := ?oi_10_20) (v := undef) ?hi_10_20 (by kernel_rfl) (by kernel_rfl) (by kernel_rfl) (fun _ _ _ h => h) (Or.inr ⟨?wt_10_20, rfl⟩) (by assumption) ?rest_10_20
    case hi_10_20 => (simp only [List.getElem?_toArray, List.getElem?_cons_succ, List.getElem?_cons_zero]; rfl)
    case wt_10_20 => rfl
    (try simp only [Act.put, List.setIfInBounds_toArray, List.set_cons_zero, List.set_cons_succ])
    refine wpAnyH_take (i := 21) (oi := ?oi_10_21) (v := undef) ?hi_10_21 (by kernel_rfl) (by kernel_rfl) (by kernel_rfl) (fun _ _ _ h => h) (Or.inr ⟨?wt_10_21, rfl⟩) (by assumption) ?rest_10_21
    case hi_10_21 => (simp only [List.getElem?_toArray, List.getElem?_cons_succ, List.getElem?_cons_zero]; rfl)
    case wt_10_21 => rfl
    (try simp only [Act.put, List.setIfInBounds_toArray, List.set_cons_zero, List.set_cons_succ])
    refine wpAnyH_take (i := 22) (oi := ?oi_10_22) (v := undef) ?hi_10_22 (by kernel_rfl) (by kernel_rfl) (by kernel_rfl) (fun _ _ _ h => h) (Or.inr ⟨?wt_10_22, rfl⟩) (by assumption) ?rest_10_22
    case hi_10_22 => (simp only [List.getElem?_toArray, List.getElem?_cons_succ, List.getElem?_cons_zero]; rfl)
    case wt_10_22 => rfl
    (try simp only [Act.put, List.setIfInBounds_toArray, List.set_cons_zero, List.set_cons_succ])
    refine wpAnyH_take (i := 23) (oi := ?oi_10_23) (v := undef) ?hi_10_23 (by kernel_rfl) (by kernel_rfl) (by kernel_rfl) (fun _ _ _ h => h) (Or.inr ⟨?wt_10_23, rfl⟩) (by assumption) ?rest_10_23
    case hi_10_23 => (simp only [List.getElem?_toArray, List.getElem?_cons_succ, List.getElem?_cons_zero]; rfl)
    case wt_10_23 => rfl
    (try simp only [Act.put, List.setIfInBounds_toArray, List.set_cons_zero, List.set_cons_succ])
    refine wpAnyH_take (i := 24) (oi := ?oi_10_24) (v := undef) ?hi_10_24 (by kernel_rfl) (by kernel_rfl) (by kernel_rfl) (fun _ _ _ h => h) (Or.inr ⟨?wt_10_24, rfl⟩) (by assumption) ?rest_10_24
    case hi_10_24 => (simp only [List.getElem?_toArray, List.getElem?_cons_succ, List.getElem?_cons_zero]; rfl)
    case wt_10_24 => rfl
    (try simp only [Act.put, List.setIfInBounds_toArray, List.set_cons_zero, List.set_cons_succ])
    refine wpAnyH_ready (rs := [25]) (by kernel_rfl) (by simp) ?_
    refine AllReadyH.cons (o := ?o_10_25) ?ho_10_25 (fun K hK => ?body_10_25) AllReadyH.nil
    case ho_10_25 => (simp only [List.getElem?_toArray, List.getElem?_cons_succ, List.getElem?_cons_zero]; rfl)
    refine not_wanted (by rfl) ?_
    refine hK.out _ _ ?_ (fun hHeld => ?_)
    · first | exact trivial | ((try dsimp only); exact e5)
    clear hK K
    (try simp only [Act.put, List.setIfInBounds_toArray, List.set_cons_zero, List.set_cons_succ])
    refine wpAnyH_take (i := 26) (oi := ?oi_10_26) (v := undef) ?hi_10_26 (by kernel_rfl) (by kernel_rfl) (by kernel_rfl) (fun _ _ _ h => h) (Or.inr ⟨?wt_10_26, rfl⟩) (by assumption) ?rest_10_26
    case hi_10_26 => (simp only [List.getElem?_toArray, List.getElem?_cons_succ, List.getElem?_cons_zero]; rfl)
    case wt_10_26 => rfl
    (try simp only [Act.put, List.setIfInBounds_toArray, List.set_cons_zero, List.set_cons_succ])
    refine wpAnyH_take (i := 27) (oi := ?oi_10_27) (v := undef) ?hi_10_27 (by kernel_rfl) (by kernel_rfl) (by kernel_rfl) (fun _ _ _ h => h) (Or.inr ⟨?wt_10_27, rfl⟩) (by assumption) ?rest_10_27
    case hi_10_27 => (simp only [List.getElem?_toArray, List.getElem?_cons_succ, List.getElem?_cons_zero]; rfl)
    case wt_10_27 => rfl
    (try simp only [Act.put, List.setIfInBounds_toArray, List.set_cons_zero, List.set_cons_succ])
    refine wpAnyH_take (i := 28) (oi := ?oi_10_28) (v := undef) ?hi_10_28 (by kernel_rfl) (by kernel_rfl) (by kernel_rfl) (fun _ _ _ h => h) (Or.inr ⟨?wt_10_28, rfl⟩) (by assumption) ?rest_10_28
    case hi_10_28 => (simp only [List.getElem?_toArray, List.getElem?_cons_succ, List.getElem?_cons_zero]; rfl)
    case wt_10_28 => rfl
    (try simp only [Act.put, List.setIfInBounds_toArray, List.set_cons_zero, List.set_cons_succ])
    refine wpAnyH_take (i := 29) (oi := ?oi_10_29) (v := ?v_10_29) ?hi_10_29 (by kernel_rfl) (by kernel_rfl) (by kernel_rfl) (fun _ _ _ h => h) (Or.inl ⟨?wt_10_29, ?hy_10_29⟩) (by assumption) ?rest_10_29
    case hi_10_29 => (simp only [List.getElem?_toArray, List.getElem?_cons_succ, List.getElem?_cons_zero]; rfl)
    case wt_10_29 => rfl
    case hy_10_29 => (intro w hSw; (try dsimp only at hSw); go_simp) <;> (first | done | with_reducible rfl)
    (try simp only [Act.put, List.setIfInBounds_toArray, List.set_cons_zero, List.set_cons_succ])
    refine wpAnyH_take (i := 30) (oi := ?oi_10_30) (v := ?v_10_30) ?hi_10_30 (by kernel_rfl) (by kernel_rfl) (by kernel_rfl) (fun _ _ _ h => h) (Or.inl ⟨?wt_10_30, ?hy_10_30⟩) (by assumption) ?rest_10_30
    case hi_10_30 => (simp only [List.getElem?_toArray, List.getElem?_cons_succ, List.getElem?_cons_zero]; rfl)
    case wt_10_30 => rfl
    case hy_10_30 => (intro w hSw; (try dsimp only at hSw); go_simp) <;> (first | done | with_reducible rfl)
    (try simp only [Act.put, List.setIfInBounds_toArray, List.set_cons_zero, List.set_cons_succ])
    refine wpAnyH_take (i := 31) (oi := ?oi_10_31) (v := ?v_10_31) ?hi_10_31 (by kernel_rfl) (by kernel_rfl) (by kernel_rfl) (fun _ _ _ h => h) (Or.inl ⟨?wt_10_31, ?hy_10_31⟩) (by assumption) ?rest_10_31
    case hi_10_31 => (simp only [List.getElem?_toArray, List.getElem?_cons_succ, List.getElem?_cons_zero]; rfl)
    case wt_10_31 => rfl
    case hy_10_31 => (intro w hSw; (try dsimp only at hSw); go_simp) <;> (first | done | with_reducible rfl)
    (try simp only [Act.put, List.setIfInBounds_toArray, List.set_cons_zero, List.set_cons_succ])
    refine wpAnyH_take (i := 32) (oi := ?oi_10_32) (v := ?v_10_32) ?hi_10_32 (by kernel_rfl) (by kernel_rfl) (by kernel_rfl) (fun _ _ _ h => h) (Or.inl ⟨?wt_10_32, ?hy_10_32⟩) (by assumption) ?rest_10_32
    case hi_10_32 => (simp only [List.getElem?_toArray, List.getElem?_cons_succ, List.getElem?_cons_zero]; rfl)
    case wt_10_32 => rfl
    case hy_10_32 => (intro w hSw; (try dsimp only at hSw); go_simp) <;> (first | done | with_reducible rfl)
    (try simp only [Act.put, List.setIfInBounds_toArray, List.set_cons_zero, List.set_cons_succ])
    refine wpAnyH_take (i := 33) (oi := ?oi_10_33) (v := ?v_10_33) ?hi_10_33 (by kernel_rfl) (by kernel_rfl) (by kernel_rfl) (fun _ _ _ h => h) (Or.inl ⟨?wt_10_33, ?hy_10_33⟩) (by assumption) ?rest_10_33
    case hi_10_33 => (simp only [List.getElem?_toArray, List.getElem?_cons_succ, List.getElem?_cons_zero]; rfl)
    case wt_10_33 => rfl
    case hy_10_33 => (intro w hSw; (try dsimp only at hSw); go_simp) <;> (first | done | with_reducible rfl)
    (try simp only [Act.put, List.setIfInBounds_toArray, List.set_cons_zero, List.set_cons_succ])
    refine wpAnyH_take (i := 34) (oi := ?oi_10_34) (v := undef) ?hi_10_34 (by kernel_rfl) (by kernel_rfl) (by kernel_rfl) (fun _ _ _ h => h) (Or.inr ⟨?wt_10_34, rfl⟩) (by assumption) ?rest_10_34
    case hi_10_34 => (simp only [List.getElem?_toArray, List.getElem?_cons_succ, List.getElem?_cons_zero]; rfl)
    case wt_10_34 => rfl
    (try simp only [Act.put, List.setIfInBounds_toArray, List.set_cons_zero, List.set_cons_succ])
    refine wpAnyH_take (i := 35) (oi := ?oi_10_35) (v := undef) ?hi_10_35 (by kernel_rfl) (by kernel_rfl) (by kernel_rfl) (fun _ _ _ h => h) (Or.inr ⟨?wt_10_35, rfl⟩) (by assumption) ?rest_10_35
    case hi_10_35 => (simp only [List.getElem?_toArray, List.getElem?_cons_succ, List.getElem?_cons_zero]; rfl)
    case wt_10_35 => rfl
    (try simp only [Act.put, List.setIfInBounds_toArray, List.set_cons_zero, List.set_cons_succ])
    refine wpAnyH_take (i := 36) (oi := ?oi_10_36) (v := undef) ?hi_10_36 (by kernel_rfl) (by kernel_rfl) (by kernel_rfl) (fun _ _ _ h => h) (Or.inr ⟨?wt_10_36, rfl⟩) (by assumption) ?rest_10_36
    case hi_10_36 => (simp only [List.getElem?_toArray, List.getElem?_cons_succ, List.getElem?_cons_zero]; rfl)
    case wt_10_36 => rfl
    (try simp only [Act.put, List.setIfInBounds_toArray, List.set_cons_zero, List.set_cons_succ])
    refine wpAnyH_take (i := 37) (oi := ?oi_10_37) (v := ?v_10_37) ?hi_10_37 (by kernel_rfl) (by kernel_rfl) (by kernel_rfl) (fun _ _ _ h => h) (Or.inl ⟨?wt_10_37, ?hy_10_37⟩) (by assumption) ?rest_10_37
    case hi_10_37 => (simp only [List.getElem?_toArray, List.getElem?_cons_succ, List.getElem?_cons_zero]; rfl)
    case wt_10_37 => rfl
    case hy_10_37 => (intro w hSw; (try dsimp only at hSw); go_simp) <;> (first | done | with_reducible rfl)
    (try simp only [Act.put, List.setIfInBounds_toArray, List.set_cons_zero, List.set_cons_succ])
    refine wpAnyH_take (i := 38) (oi := ?oi_10_38) (v := ?v_10_38) ?hi_10_38 (by kernel_rfl) (by kernel_rfl) (by kernel_rfl) (fun _ _ _ h => h) (Or.inl ⟨?wt_10_38, ?hy_10_38⟩) (by assumption) ?rest_10_38
    case hi_10_38 => (simp only [List.getElem?_toArray, List.getElem?_cons_succ, List.getElem?_cons_zero]; rfl)
    case wt_10_38 => rfl
    case hy_10_38 => (intro w hSw; (try dsimp only at hSw); go_simp) <;> (first | done | with_reducible rfl)
    (try simp only [Act.put, List.setIfInBounds_toArray, List.set_cons_zero, List.set_cons_succ])
    refine wpAnyH_take (i := 39) (oi := ?oi_10_39) (v := ?v_10_39) ?hi_10_39 (by kernel_rfl) (by kernel_rfl) (by kernel_rfl) (fun _ _ _ h => h) (Or.inl ⟨?wt_10_39, ?hy_10_39⟩) (by assumption) ?rest_10_39
    case hi_10_39 => (simp only [List.getElem?_toArray, List.getElem?_cons_succ, List.getElem?_cons_zero]; rfl)
    case wt_10_39 => rfl
    case hy_10_39 => (intro w hSw; (try dsimp only at hSw); go_simp) <;> (first | done | with_reducible rfl)
    (try simp only [Act.put, List.setIfInBounds_toArray, List.set_cons_zero, List.set_cons_succ])
    refine wpAnyH_take (i := 40) (oi := ?oi_10_40) (v := ?v_10_40) ?hi_10_40 (by kernel_rfl) (by kernel_rfl) (by kernel_rfl) (fun _ _ _ h => h) (Or.inl ⟨?wt_10_40, ?hy_10_40⟩) (by assumption) ?rest_10_40
    case hi_10_40 => (simp only [List.getElem?_toArray, List.getElem?_cons_succ, List.getElem?_cons_zero]; rfl)
    case wt_10_40 => rfl
    case hy_10_40 => (intro w hSw; (try dsimp only at hSw); go_simp) <;> (first | done | with_reducible rfl)
    (try simp only [Act.put, List.setIfInBounds_toArray, List.set_cons_zero, List.set_cons_succ])
    refine wpAnyH_take (i := 41) (oi := ?oi_10_41) (v := ?v_10_41) ?hi_10_41 (by kernel_rfl) (by kernel_rfl) (by kernel_rfl) (fun _ _ _ h => h) (Or.inl ⟨?wt_10_41, ?hy_10_41⟩) (by assumption) ?rest_10_41
    case hi_10_41 => (simp only [List.getElem?_toArray, List.getElem?_cons_succ, List.getElem?_cons_zero]; rfl)
    case wt_10_41 => rfl
    case hy_10_41 => (intro w hSw; (try dsimp only at hSw); go_simp) <;> (first | done | with_reducible rfl)
    (try simp only [Act.put, List.setIfInBounds_toArray, List.set_cons_zero, List.set_cons_succ])
    refine wpAnyH_take (i := 42) (oi := ?oi_10_42) (v := ?v_10_42) ?hi_10_42 (by kernel_rfl) (by kernel_rfl) (by kernel_rfl) (fun _ _ _ h => h) (Or.inl ⟨?wt_10_42, ?hy_10_42⟩) (by assumption) ?rest_10_42
    case hi_10_42 => (simp only [List.getElem?_toArray, List.getElem?_cons_succ, List.getElem?_cons_zero]; rfl)
    case wt_10_42 => rfl
    case hy_10_42 => (intro w hSw; (try dsimp only at hSw); go_simp) <;> (first | done | with_reducible rfl)
    (try simp only [Act.put, List.setIfInBounds_toArray, List.set_cons_zero, List.set_cons_succ])
    refine wpAnyH_take (i := 43) (oi := ?oi_10_43) (v := ?v_10_43) ?hi_10_43 (by kernel_rfl) (by kernel_rfl) (by kernel_rfl) (fun _ _ _ h => h) (Or.inl ⟨?wt_10_43, ?hy_10_43⟩) (by assumption) ?rest_10_43
    case hi_10_43 => (simp only [List.getElem?_toArray, List.getElem?_cons_succ, List.getElem?_cons_zero]; rfl)
    case wt_10_43 => rfl
    case hy_10_43 => (intro w hSw; (try dsimp only at hSw); go_simp) <;> (first | done | with_reducible rfl)
    (try simp only [Act.put, List.setIfInBounds_toArray, List.set_cons_zero, List.set_cons_succ])
    refine wpAnyH_take (i := 44) (oi := ?oi_10_44) (v := ?v_10_44) ?hi_10_44 (by kernel_rfl) (by kernel_rfl) (by kernel_rfl) (fun _ _ _ h => h) (Or.inl ⟨?wt_10_44, ?hy_10_44⟩) (by assumption) ?rest_10_44
    case hi_10_44 => (simp only [List.getElem?_toArray, List.getElem?_cons_succ, List.getElem?_cons_zero]; rfl)
    case wt_10_44 => rfl
    case hy_10_44 => (intro w hSw; (try dsimp only at hSw); go_simp) <;> (first | done | with_reducible rfl)
    (try simp only [Act.put, List.setIfInBounds_toArray, List.set_cons_zero, List.set_cons_succ])
    refine wpAnyH_take (i := 45) (oi := ?oi_10_45) (v := ?v_10_45) ?hi_10_45 (by kernel_rfl) (by kernel_rfl) (by kernel_rfl) (fun _ _ _ h => h) (Or.inl ⟨?wt_10_45, ?hy_10_45⟩) (by assumption) ?rest_10_45
    case hi_10_45 => (simp only [List.getElem?_toArray, List.getElem?_cons_succ, List.getElem?_cons_zero]; rfl)
    case wt_10_45 => rfl
    case hy_10_45 => (intro w hSw; (try dsimp only at hSw); go_simp) <;> (first | done | with_reducible rfl)
    (try simp only [Act.put, List.setIfInBounds_toArray, List.set_cons_zero, List.set_cons_succ])
    refine wpAnyH_take (i := 46) (oi := ?oi_10_46) (v := ?v_10_46) ?hi_10_46 (by kernel_rfl) (by kernel_rfl) (by kernel_rfl) (fun _ _ _ h => h) (Or.inl ⟨?wt_10_46, ?hy_10_46⟩) (by assumption) ?rest_10_46
    case hi_10_46 => (simp only [List.getElem?_toArray, List.getElem?_cons_succ, List.getElem?_cons_zero]; rfl)
    case wt_10_46 => rfl
    case hy_10_46 => (intro w hSw; (try dsimp only at hSw); go_simp) <;> (first | done | with_reducible rfl)
    (try simp only [Act.put, List.setIfInBounds_toArray, List.set_cons_zero, List.set_cons_succ])
    refine wpAnyH_take (i := 47) (oi := ?oi_10_47) (v := ?v_10_47) ?hi_10_47 (by kernel_rfl) (by kernel_rfl) (by kernel_rfl) (fun _ _ _ h => h) (Or.inl ⟨?wt_10_47, ?hy_10_47⟩) (by assumption) ?rest_10_47
    case hi_10_47 => (simp only [List.getElem?_toArray, List.getElem?_cons_succ, List.getElem?_cons_zero]; rfl)
    case wt_10_47 => rfl
    case hy_10_47 => (intro w hSw; (try dsimp only at hSw); go_simp) <;> (first | done | with_reducible rfl)
    (try simp only [Act.put, List.setIfInBounds_toArray, List.set_cons_zero, List.set_cons_succ])
    refine wpAnyH_done (by kernel_rfl) ?_ _
    refine NoPanic.normal ?_
    go_wp2
    go_ret
    exact ⟨rfl, HB9.out.drew⟩
  · clear C1 C2
    rw [h1]
    subst h1y
    simp only [Option.isSome_some, Option.getD_some] at HO59 ⊢
    obtain ⟨A5, c5, hv5⟩ := Kd.N_slice HO59.out
    subst hv5
    have e5 := byte_string (HO59.out.drew).rd
    rw [h2]
    subst h2z
    simp only [Option.isSome_some, Option.getD_some] at HO9 ⊢
    obtain ⟨A9, c9, hv9⟩ := Kd.N_slice HO9.out
    subst hv9
    have e9 := byte_string (HO9.out.drew).rd
    clear h1
    clear h2
    go_wp2_with fail
    refine wp_region_noPanic ?_
    refine wp_region_held_drew (S := (fun W => (convert 22 9 (.slice A5 l.length c5)).run Tryd.prog W = .ok (.string ⟨l.toArray⟩) W ∧ (convert 22 9 (.slice A9 l.length c9)).run Tryd.prog W = .ok (.string ⟨l.toArray⟩) W)) (by kernel_rfl) ?_ (fun hHeld => ?_)
    · first | exact trivial | ((try dsimp only); exact ⟨e5, e9⟩)
    refine wpAnyH_take (i := 0) (oi := ?oi_11_0) (v := ?v_11_0) ?hi_11_0 (by kernel_rfl) (by kernel_rfl) (by kernel_rfl) (fun _ _ _ h => h) (Or.inl ⟨?wt_11_0, ?hy_11_0⟩) (by assumption) ?rest_11_0
    case hi_11_0 => (simp only [List.getElem?_toArray, List.getElem?_cons_succ, List.getElem?_cons_zero]; rfl)
    case wt_11_0 => rfl
    case hy_11_0 => (intro w hSw; (try dsimp only at hSw); go_simp) <;> (first | done | with_reducible rfl)
    (try simp only [Act.put, List.setIfInBounds_toArray, List.set_cons_zero, List.set_cons_succ])
    refine wpAnyH_take (i := 1) (oi := ?oi_11_1) (v := ?v_11_1) ?hi_11_1 (by kernel_rfl) (by kernel_rfl) (by kernel_rfl) (fun _ _ _ h => h) (Or.inl ⟨?wt_11_1, ?hy_11_1⟩) (by assumption) ?rest_11_1
    case hi_11_1 => (simp only [List.getElem?_toArray, List.getElem?_cons_succ, List.getElem?_cons_zero]; rfl)
    case wt_11_1 => rfl
    case hy_11_1 => (intro w hSw; (try dsimp only at hSw); go_simp) <;> (first | done | with_reducible rfl)
    (try simp only [Act.put, List.setIfInBounds_toArray, List.set_cons_zero, List.set_cons_succ])
    refine wpAnyH_take (i := 2) (oi := ?oi_11_2) (v := ?v_11_2) ?hi_11_2 (by kernel_rfl) (by kernel_rfl) (by kernel_rfl) (fun _ _ _ h => h) (Or.inl ⟨?wt_11_2, ?hy_11_2⟩) (by assumption) ?rest_11_2
    case hi_11_2 => (simp only [List.getElem?_toArray, List.getElem?_cons_succ, List.getElem?_cons_zero]; rfl)
    case wt_11_2 => rfl
    case hy_11_2 => (intro w hSw; (try dsimp only at hSw); go_simp) <;> (first | done | with_reducible rfl)
    (try simp only [Act.put, List.setIfInBounds_toArray, List.set_cons_zero, List.set_cons_succ])
    refine wpAnyH_take (i := 3) (oi := ?oi_11_3) (v := ?v_11_3) ?hi_11_3 (by kernel_rfl) (by kernel_rfl) (by kernel_rfl) (fun _ _ _ h => h) (Or.inl ⟨?wt_11_3, ?hy_11_3⟩) (by assumption) ?rest_11_3
    case hi_11_3 => (simp only [List.getElem?_toArray, List.getElem?_cons_succ, List.getElem?_cons_zero]; rfl)
    case wt_11_3 => rfl
    case hy_11_3 => (intro w hSw; (try dsimp only at hSw); go_simp) <;> (first | done | with_reducible rfl)
    (try simp only [Act.put, List.setIfInBounds_toArray, List.set_cons_zero, List.set_cons_succ])
    refine wpAnyH_take (i := 4) (oi := ?oi_11_4) (v := ?v_11_4) ?hi_11_4 (by kernel_rfl) (by kernel_rfl) (by kernel_rfl) (fun _ _ _ h => h) (Or.inl ⟨?wt_11_4, ?hy_11_4⟩) (by assumption) ?rest_11_4
    case hi_11_4 => (simp only [List.getElem?_toArray, List.getElem?_cons_succ, List.getElem?_cons_zero]; rfl)
    case wt_11_4 => rfl
    case hy_11_4 => (intro w hSw; (try dsimp only at hSw); go_simp) <;> (first | done | with_reducible rfl)
    (try simp only [Act.put, List.setIfInBounds_toArray, List.set_cons_zero, List.set_cons_succ])
    refine wpAnyH_take (i := 5) (oi := ?oi_11_5) (v := ?v_11_5) ?hi_11_5 (by kernel_rfl) (by kernel_rfl) (by kernel_rfl) (fun _ _ _ h => h) (Or.inl ⟨?wt_11_5, ?hy_11_5⟩) (by assumption) ?rest_11_5
    case hi_11_5 => (simp only [List.getElem?_toArray, List.getElem?_cons_succ, List.getElem?_cons_zero]; rfl)
    case wt_11_5 => rfl
    case hy_11_5 => (intro w hSw; (try dsimp only at hSw); go_simp) <;> (first | done | with_reducible rfl)
    (try simp only [Act.put, List.setIfInBounds_toArray, List.set_cons_zero, List.set_cons_succ])
    refine wpAnyH_take (i := 6) (oi := ?oi_11_6) (v := ?v_11_6) ?hi_11_6 (by kernel_rfl) (by kernel_rfl) (by kernel_rfl) (fun _ _ _ h => h) (Or.inl ⟨?wt_11_6, ?hy_11_6⟩) (by assumption) ?rest_11_6
    case hi_11_6 => (simp only [List.getElem?_toArray, List.getElem?_cons_succ, List.getElem?_cons_zero]; rfl)
    case wt_11_6 => rfl
    case hy_11_6 => (intro w hSw; (try dsimp only at hSw); go_simp) <;> (first | done | with_reducible rfl)
    (try simp only [Act.put, List.setIfInBounds_toArray, List.set_cons_zero, List.set_cons_succ])
    refine wpAnyH_take (i := 7) (oi := ?oi_11_7) (v := ?v_11_7) ?hi_11_7 (by kernel_rfl) (by kernel_rfl) (by kernel_rfl) (fun _ _ _ h => h) (Or.inl ⟨?wt_11_7, ?hy_11_7⟩) (by assumption) ?rest_11_7
    case hi_11_7 => (simp only [List.getElem?_toArray, List.getElem?_cons_succ, List.getElem?_cons_zero]; rfl)
    case wt_11_7 => rfl
    case hy_11_7 => (intro w hSw; (try dsimp only at hSw); go_simp) <;> (first | done | with_reducible rfl)
    (try simp only [Act.put, List.setIfInBounds_toArray, List.set_cons_zero, List.set_cons_succ])
    refine wpAnyH_take (i := 8) (oi := ?oi_11_8) (v := ?v_11_8) ?hi_11_8 (by kernel_rfl) (by kernel_rfl) (by kernel_rfl) (fun _ _ _ h => h) (Or.inl ⟨?wt_11_8, ?hy_11_8⟩) (by assumption) ?rest_11_8
    case hi_11_8 => (simp only [List.getElem?_toArray, List.getElem?_cons_succ, List.getElem?_cons_zero]; rfl)
    case wt_11_8 => rfl
    case hy_11_8 => (intro w hSw; (try dsimp only at hSw); go_simp) <;> (first | done | with_reducible rfl)
    (try simp only [Act.put, List.setIfInBounds_toArray, List.set_cons_zero, List.set_cons_succ])
    refine wpAnyH_take (i := 9) (oi := ?oi_11_9) (v := ?v_11_9) ?hi_11_9 (by kernel_rfl) (by kernel_rfl) (by kernel_rfl) (fun _ _ _ h => h) (Or.inl ⟨?wt_11_9, ?hy_11_9⟩) (by assumption) ?rest_11_9
    case hi_11_9 => (simp only [List.getElem?_toArray, List.getElem?_cons_succ, List.getElem?_cons_zero]; rfl)
    case wt_11_9 => rfl
    case hy_11_9 => (intro w hSw; (try dsimp only at hSw); go_simp) <;> (first | done | with_reducible rfl)
    (try simp only [Act.put, List.setIfInBounds_toArray, List.set_cons_zero, List.set_cons_succ])
    refine wpAnyH_ready (rs := [10]) (by kernel_rfl) (by simp) ?_
    refine AllReadyH.cons rfl (fun K hK => ?_) AllReadyH.nil
    go_simp
    (go_at_call 7; refine (few08_any _ _ _ HRd2.out).mono ?_; rintro e wf ⟨vf1, rfl, hrf, rfl⟩; rw [HLL.out] at hrf; obtain ⟨Af1, cf1, hvf⟩ := Kd.V_slice hrf; subst hvf; have ef1 := byte_string hrf)
    go_wp2_with fail
    refine hK.out _ _ ?_ (fun hHeld => ?_)
    · first | exact trivial | ((try dsimp only); exact ⟨e5, e9⟩)
    clear hK K
    (try simp only [Act.put, List.setIfInBounds_toArray, List.set_cons_zero, List.set_cons_succ])
    refine wpAnyH_ready (rs := [11]) (by kernel_rfl) (by simp) ?_
    refine AllReadyH.cons rfl (fun K hK => ?_) AllReadyH.nil
    go_simp
    refine hK.out _ _ ?_ (fun hHeld => ?_)
    · first | exact trivial | ((try dsimp only); exact ⟨e5, e9⟩)
    clear hK K
    (try simp only [Act.put, List.setIfInBounds_toArray, List.set_cons_zero, List.set_cons_succ])
    refine wpAnyH_take (i := 12) (oi := ?oi_11_12) (v := ?v_11_12) ?hi_11_12 (by kernel_rfl) (by kernel_rfl) (by kernel_rfl) (fun _ _ _ h => h) (Or.inl ⟨?wt_11_12, ?hy_11_12⟩) (by assumption) ?rest_11_12
    case hi_11_12 => (simp only [List.getElem?_toArray, List.getElem?_cons_succ, List.getElem?_cons_zero]; rfl)
    case wt_11_12 => rfl
    case hy_11_12 => (intro w hSw; (try dsimp only at hSw); go_simp) <;> (first | done | with_reducible rfl)
    (try simp only [Act.put, List.setIfInBounds_toArray, List.set_cons_zero, List.set_cons_succ])
    refine wpAnyH_take (i := 13) (oi := ?oi_11_13) (v := ?v_11_13) ?hi_11_13 (by kernel_rfl) (by kernel_rfl) (by kernel_rfl) (fun _ _ _ h => h) (Or.inl ⟨?wt_11_13, ?hy_11_13⟩) (by assumption) ?rest_11_13
    case hi_11_13 => (simp only [List.getElem?_toArray, List.getElem?_cons_succ, List.getElem?_cons_zero]; rfl)
    case wt_11_13 => rfl
    case hy_11_13 => (intro w hSw; (try dsimp only at hSw); go_simp) <;> (first | done | with_reducible rfl)
    (try simp only [Act.put, List.setIfInBounds_toArray, List.set_cons_zero, List.set_cons_succ])
    refine wpAnyH_take (i := 14) (oi := ?oi_11_14) (v := ?v_11_14) ?hi_11_14 (by kernel_rfl) (by kernel_rfl) (by kernel_rfl) (fun _ _ _ h => h) (Or.inl ⟨?wt_11_14, ?hy_11_14⟩) (by assumption) ?rest_11_14
    case hi_11_14 => (simp only [List.getElem?_toArray, List.getElem?_cons_succ, List.getElem?_cons_zero]; rfl)
    case wt_11_14 => rfl
    case hy_11_14 => (intro w hSw; (try dsimp only at hSw); go_simp) <;> (first | done | with_reducible rfl)
    (try simp only [Act.put, List.setIfInBounds_toArray, List.set_cons_zero, List.set_cons_succ])
    refine wpAnyH_take (i := 15) (oi := ?oi_11_15) (v := ?v_11_15) ?hi_11_15 (by kernel_rfl) (by kernel_rfl) (by kernel_rfl) (fun _ _ _ h => h) (Or.inl ⟨?wt_11_15, ?hy_11_15⟩) (by assumption) ?rest_11_15
    case hi_11_15 => (simp only [List.getElem?_toArray, List.getElem?_cons_succ, List.getElem?_cons_zero]; rfl)
    case wt_11_15 => rfl
    case hy_11_15 => (intro w hSw; (try dsimp only at hSw); go_simp) <;> (first | done | with_reducible rfl)
    (try simp only [Act.put, List.setIfInBounds_toArray, List.set_cons_zero, List.set_cons_succ])
    refine wpAnyH_take (i := 16) (oi := ?oi_11_16) (v := ?v_11_16) ?hi_11_16 (by kernel_rfl) (by kernel_rfl) (by kernel_rfl) (fun _ _ _ h => h) (Or.inl ⟨?wt_11_16, ?hy_11_16⟩) (by assumption) ?rest_11_16
    case hi_11_16 => (simp only [List.getElem?_toArray, List.getElem?_cons_succ, List.getElem?_cons_zero]; rfl)
    case wt_11_16 => rfl
    case hy_11_16 => (intro w hSw; (try dsimp only at hSw); go_simp) <;> (first | done | with_reducible rfl)
    (try simp only [Act.put, List.setIfInBounds_toArray, List.set_cons_zero, List.set_cons_succ])
    refine wpAnyH_take (i := 17) (oi := ?oi_11_17) (v := ?v_11_17) ?hi_11_17 (by kernel_rfl) (by kernel_rfl) (by kernel_rfl) (fun _ _ _ h => h) (Or.inl ⟨?wt_11_17, ?hy_11_17⟩) (by assumption) ?rest_11_17
    case hi_11_17 => (simp only [List.getElem?_toArray, List.getElem?_cons_succ, List.getElem?_cons_zero]; rfl)
    case wt_11_17 => rfl
    case hy_11_17 => (intro w hSw; (try dsimp only at hSw); go_simp) <;> (first | done | with_reducible rfl)
    (try simp only [Act.put, List.setIfInBounds_toArray, List.set_cons_zero, List.set_cons_succ])
    refine wpAnyH_take (i := 18) (oi := ?oi_11_18) (v := ?v_11_18) ?hi_11_18 (by kernel_rfl) (by kernel_rfl) (by kernel_rfl) (fun _ _ _ h => h) (Or.inl ⟨?wt_11_18, ?hy_11_18⟩) (by assumption) ?rest_11_18
    case hi_11_18 => (simp only [List.getElem?_toArray, List.getElem?_cons_succ, List.getElem?_cons_zero]; rfl)
    case wt_11_18 => rfl
    case hy_11_18 => (intro w hSw; (try dsimp only at hSw); go_simp) <;> (first | done | with_reducible rfl)
    (try simp only [Act.put, List.setIfInBounds_toArray, List.set_cons_zero, List.set_cons_succ])
    refine wpAnyH_take (i := 19) (oi := ?oi_11_19) (v := ?v_11_19) ?hi_11_19 (by kernel_rfl) (by kernel_rfl) (by kernel_rfl) (fun _ _ _ h => h) (Or.inl ⟨?wt_11_19, ?hy_11_19⟩) (by assumption) ?rest_11_19
    case hi_11_19 => (simp only [List.getElem?_toArray, List.getElem?_cons_succ, List.getElem?_cons_zero]; rfl)
    case wt_11_19 => rfl
    case hy_11_19 => (intro w hSw; (try dsimp only at hSw); go_simp) <;> (first | done | with_reducible rfl)
    (try simp only [Act.put, List.setIfInBounds_toArray, List.set_cons_zero, List.set_cons_succ])
    refine wpAnyH_take (i := 20) (oi := ?oi_11_20) (v := ?v_11_20) ?hi_11_20 (by kernel_rfl) (by kernel_rfl) (by kernel_rfl) (fun _ _ _ h => h) (Or.inl ⟨?wt_11_20, ?hy_11_20⟩) (by assumption) ?rest_11_20
    case hi_11_20 => (simp only [List.getElem?_toArray, List.getElem?_cons_succ, List.getElem?_cons_zero]; rfl)
    case wt_11_20 => rfl
    case hy_11_20 => (intro w hSw; (try dsimp only at hSw); go_simp) <;> (first | done | with_reducible rfl)
    (try simp only [Act.put, List.setIfInBounds_toArray, List.set_cons_zero, List.set_cons_succ])
    refine wpAnyH_take (i := 21) (oi := ?oi_11_21) (v := ?v_11_21) ?hi_11_21 (by kernel_rfl) (by kernel_rfl) (by kernel_rfl) (fun _ _ _ h => h) (Or.inl ⟨?wt_11_21, ?hy_11_21⟩) (by assumption) ?rest_11_21
    case hi_11_21 => (simp only [List.getElem?_toArray, List.getElem?_cons_succ, List.getElem?_cons_zero]; rfl)
    case wt_11_21 => rfl
    case hy_11_21 => (intro w hSw; (try dsimp only at hSw); go_simp) <;> (first | done | with_reducible rfl)
    (try simp only [Act.put, List.setIfInBounds_toArray, List.set_cons_zero, List.set_cons_succ])
    refine wpAnyH_take (i := 22) (oi := ?oi_11_22) (v := ?v_11_22) ?hi_11_22 (by kernel_rfl) (by kernel_rfl) (by kernel_rfl) (fun _ _ _ h => h) (Or.inl ⟨?wt_11_22, ?hy_11_22⟩) (by assumption) ?rest_11_22
    case hi_11_22 => (simp only [List.getElem?_toArray, List.getElem?_cons_succ, List.getElem?_cons_zero]; rfl)
    case wt_11_22 => rfl
    case hy_11_22 => (intro w hSw; (try dsimp only at hSw); go_simp) <;> (first | done | with_reducible rfl)
    (try simp only [Act.put, List.setIfInBounds_toArray, List.set_cons_zero, List.set_cons_succ])
    refine wpAnyH_take (i := 23) (oi := ?oi_11_23) (v := ?v_11_23) ?hi_11_23 (by kernel_rfl) (by kernel_rfl) (by kernel_rfl) (fun _ _ _ h => h) (Or.inl ⟨?wt_11_23, ?hy_11_23⟩) (by assumption) ?rest_11_23
    case hi_11_23 => (simp only [List.getElem?_toArray, List.getElem?_cons_succ, List.getElem?_cons_zero]; rfl)
    case wt_11_23 => rfl
    case hy_11_23 => (intro w hSw; (try dsimp only at hSw); go_simp) <;> (first | done | with_reducible rfl)
    (try simp only [Act.put, List.setIfInBounds_toArray, List.set_cons_zero, List.set_cons_succ])
    refine wpAnyH_take (i := 24) (oi := ?oi_11_24) (v := ?v_11_24) ?hi_11_24 (by kernel_rfl) (by kernel_rfl) (by kernel_rfl) (fun _ _ _ h => h) (Or.inl ⟨?wt_11_24, ?hy_11_24⟩) (by assumption) ?rest_11_24
    case hi_11_24 => (simp only [List.getElem?_toArray, List.getElem?_cons_succ, List.getElem?_cons_zero]; rfl)
    case wt_11_24 => rfl
    case hy_11_24 => (intro w hSw; (try dsimp only at hSw); go_simp) <;> (first | done | with_reducible rfl)
    (try simp only [Act.put, List.setIfInBounds_toArray, List.set_cons_zero, List.set_cons_succ])
    refine wpAnyH_ready (rs := [25]) (by kernel_rfl) (by simp) ?_
    refine AllReadyH.cons rfl (fun K hK => ?_) AllReadyH.nil
    go_simp
    (go_at_call 7; refine (few08_any _ _ _ HRd2.out).mono ?_; rintro e wf ⟨vf2, rfl, hrf, rfl⟩; rw [HLL.out] at hrf; obtain ⟨Af2, cf2, hvf⟩ := Kd.V_slice hrf; subst hvf; have ef2 := byte_string hrf)
    go_wp2_with fail
    refine hK.out _ _ ?_ (fun hHeld => ?_)
    · first | exact trivial | ((try dsimp only); exact ⟨e5, e9⟩)
    clear hK K
    (try simp only [Act.put, List.setIfInBounds_toArray, List.set_cons_zero, List.set_cons_succ])
    refine wpAnyH_ready (rs := [26]) (by kernel_rfl) (by simp) ?_
    refine AllReadyH.cons rfl (fun K hK => ?_) AllReadyH.nil
    go_simp
    refine hK.out _ _ ?_ (fun hHeld => ?_)
    · first | exact trivial | ((try dsimp only); exact ⟨e5, e9⟩)
    clear hK K
    (try simp only [Act.put, List.setIfInBounds_toArray, List.set_cons_zero, List.set_cons_succ])
    refine wpAnyH_take (i := 27) (oi := ?oi_11_27) (v := ?v_11_27) ?hi_11_27 (by kernel_rfl) (by kernel_rfl) (by kernel_rfl) (fun _ _ _ h => h) (Or.inl ⟨?wt_11_27, ?hy_11_27⟩) (by assumption) ?rest_11_27
    case hi_11_27 => (simp only [List.getElem?_toArray, List.getElem?_cons_succ, List.getElem?_cons_zero]; rfl)
    case wt_11_27 => rfl
    case hy_11_27 => (intro w hSw; (try dsimp only at hSw); go_simp) <;> (first | done | with_reducible rfl)
    (try simp only [Act.put, List.setIfInBounds_toArray, List.set_cons_zero, List.set_cons_succ])
    refine wpAnyH_take (i := 28) (oi := ?oi_11_28) (v := ?v_11_28) ?hi_11_28 (by kernel_rfl) (by kernel_rfl) (by kernel_rfl) (fun _ _ _ h => h) (Or.inl ⟨?wt_11_28, ?hy_11_28⟩) (by assumption) ?rest_11_28
    case hi_11_28 => (simp only [List.getElem?_toArray, List.getElem?_cons_succ, List.getElem?_cons_zero]; rfl)
    case wt_11_28 => rfl
    case hy_11_28 => (intro w hSw; (try dsimp only at hSw); go_simp) <;> (first | done | with_reducible rfl)
    (try simp only [Act.put, List.setIfInBounds_toArray, List.set_cons_zero, List.set_cons_succ])
    refine wpAnyH_take (i := 29) (oi := ?oi_11_29) (v := ?v_11_29) ?hi_11_29 (by kernel_rfl) (by kernel_rfl) (by kernel_rfl) (fun _ _ _ h => h) (Or.inl ⟨?wt_11_29, ?hy_11_29⟩) (by assumption) ?rest_11_29
    case hi_11_29 => (simp only [List.getElem?_toArray, List.getElem?_cons_succ, List.getElem?_cons_zero]; rfl)
    case wt_11_29 => rfl
    case hy_11_29 => (intro w hSw; (try dsimp only at hSw); go_simp) <;> (first | done | with_reducible rfl)
    (try simp only [Act.put, List.setIfInBounds_toArray, List.set_cons_zero, List.set_cons_succ])
    refine wpAnyH_take (i := 30) (oi := ?oi_11_30) (v := ?v_11_30) ?hi_11_30 (by kernel_rfl) (by kernel_rfl) (by kernel_rfl) (fun _ _ _ h => h) (Or.inl ⟨?wt_11_30, ?hy_11_30⟩) (by assumption) ?rest_11_30
    case hi_11_30 => (simp only [List.getElem?_toArray, List.getElem?_cons_succ, List.getElem?_cons_zero]; rfl)
    case wt_11_30 => rfl
    case hy_11_30 => (intro w hSw; (try dsimp only at hSw); go_simp) <;> (first | done | with_reducible rfl)
    (try simp only [Act.put, List.setIfInBounds_toArray, List.set_cons_zero, List.set_cons_succ])
    refine wpAnyH_take (i := 31) (oi := ?oi_11_31) (v := ?v_11_31) ?hi_11_31 (by kernel_rfl) (by kernel_rfl) (by kernel_rfl) (fun _ _ _ h => h) (Or.inl ⟨?wt_11_31, ?hy_11_31⟩) (by assumption) ?rest_11_31
    case hi_11_31 => (simp only [List.getElem?_toArray, List.getElem?_cons_succ, List.getElem?_cons_zero]; rfl)
    case wt_11_31 => rfl
    case hy_11_31 => (intro w hSw; (try dsimp only at hSw); go_simp) <;> (first | done | with_reducible rfl)
    (try simp only [Act.put, List.setIfInBounds_toArray, List.set_cons_zero, List.set_cons_succ])
    refine wpAnyH_take (i := 32) (oi := ?oi_11_32) (v := ?v_11_32) ?hi_11_32 (by kernel_rfl) (by kernel_rfl) (by kernel_rfl) (fun _ _ _ h => h) (Or.inl ⟨?wt_11_32, ?hy_11_32⟩) (by assumption) ?rest_11_32
    case hi_11_32 => (simp only [List.getElem?_toArray, List.getElem?_cons_succ, List.getElem?_cons_zero]; rfl)
    case wt_11_32 => rfl
    case hy_11_32 => (intro w hSw; (try dsimp only at hSw); go_simp) <;> (first | done | with_reducible rfl)
    (try simp only [Act.put, List.setIfInBounds_toArray, List.set_cons_zero, List.set_cons_succ])
    refine wpAnyH_take (i := 33) (oi := ?oi_11_33) (v := ?v_11_33) ?hi_11_33 (by kernel_rfl) (by kernel_rfl) (by kernel_rfl) (fun _ _ _ h => h) (Or.inl ⟨?wt_11_33, ?hy_11_33⟩) (by assumption) ?rest_11_33
    case hi_11_33 => (simp only [List.getElem?_toArray, List.getElem?_cons_succ, List.getElem?_cons_zero]; rfl)
    case wt_11_33 => rfl
    case hy_11_33 => (intro w hSw; (try dsimp only at hSw); go_simp) <;> (first | done | with_reducible rfl)
    (try simp only [Act.put, List.setIfInBounds_toArray, List.set_cons_zero, List.set_cons_succ])
    refine wpAnyH_take (i := 34) (oi := ?oi_11_34) (v := undef) ?hi_11_34 (by kernel_rfl) (by kernel_rfl) (by kernel_rfl) (fun _ _ _ h => h) (Or.inr ⟨?wt_11_34, rfl⟩) (by assumption) ?rest_11_34
    case hi_11_34 => (simp only [List.getElem?_toArray, List.getElem?_cons_succ, List.getElem?_cons_zero]; rfl)
    case wt_11_34 => rfl
    (try simp only [Act.put, List.setIfInBounds_toArray, List.set_cons_zero, List.set_cons_succ])
    refine wpAnyH_take (i := 35) (oi := ?oi_11_35) (v := undef) ?hi_11_35 (by kernel_rfl) (by kernel_rfl) (by kernel_rfl) (fun _ _ _ h => h) (Or.inr ⟨?wt_11_35, rfl⟩) (by assumption) ?rest_11_35
    case hi_11_35 => (simp only [List.getElem?_toArray, List.getElem?_cons_succ, List.getElem?_cons_zero]; rfl)
    case wt_11_35 => rfl
    (try simp only [Act.put, List.setIfInBounds_toArray, List.set_cons_zero, List.set_cons_succ])
    refine wpAnyH_take (i := 36) (oi := ?oi_11_36) (v := undef) ?hi_11_36 (by kernel_rfl) (by kernel_rfl) (by kernel_rfl) (fun _ _ _ h => h) (Or.inr ⟨?wt_11_36, rfl⟩) (by assumption) ?rest_11_36
    case hi_11_36 => (simp only [List.getElem?_toArray, List.getElem?_cons_succ, List.getElem?_cons_zero]; rfl)
    case wt_11_36 => rfl
    (try simp only [Act.put, List.setIfInBounds_toArray, List.set_cons_zero, List.set_cons_succ])
    refine wpAnyH_take (i := 37) (oi := ?oi_11_37) (v := ?v_11_37) ?hi_11_37 (by kernel_rfl) (by kernel_rfl) (by kernel_rfl) (fun _ _ _ h => h) (Or.inl ⟨?wt_11_37, ?hy_11_37⟩) (by assumption) ?rest_11_37
    case hi_11_37 => (simp only [List.getElem?_toArray, List.getElem?_cons_succ, List.getElem?_cons_zero]; rfl)
    case wt_11_37 => rfl
    case hy_11_37 => (intro w hSw; (try dsimp only at hSw); go_simp) <;> (first | done | with_reducible rfl)
    (try simp only [Act.put, List.setIfInBounds_toArray, List.set_cons_zero, List.set_cons_succ])
    refine wpAnyH_take (i := 38) (oi := ?oi_11_38) (v := ?v_11_38) ?hi_11_38 (by kernel_rfl) (by kernel_rfl) (by kernel_rfl) (fun _ _ _ h => h) (Or.inl ⟨?wt_11_38, ?hy_11_38⟩) (by assumption) ?rest_11_38
    case hi_11_38 => (simp only [List.getElem?_toArray, List.getElem?_cons_succ, List.getElem?_cons_zero]; rfl)
    case wt_11_38 => rfl
    case hy_11_38 => (intro w hSw; (try dsimp only at hSw); go_simp) <;> (first | done | with_reducible rfl)
    (try simp only [Act.put, List.setIfInBounds_toArray, List.set_cons_zero, List.set_cons_succ])
    refine wpAnyH_take (i := 39) (oi := ?oi_11_39) (v := ?v_11_39) ?hi_11_39 (by kernel_rfl) (by kernel_rfl) (by kernel_rfl) (fun _ _ _ h => h) (Or.inl ⟨?wt_11_39, ?hy_11_39⟩) (by assumption) ?rest_11_39
    case hi_11_39 => (simp only [List.getElem?_toArray, List.getElem?_cons_succ, List.getElem?_cons_zero]; rfl)
    case wt_11_39 => rfl
    case hy_11_39 => (intro w hSw; (try dsimp only at hSw); go_simp) <;> (first | done | with_reducible rfl)
    (try simp only [Act.put, List.setIfInBounds_toArray, List.set_cons_zero, List.set_cons_succ])
    refine wpAnyH_take (i := 40) (oi := ?oi_11_40) (v := ?v_11_40) ?hi_11_40 (by kernel_rfl) (by kernel_rfl) (by kernel_rfl) (fun _ _ _ h => h) (Or.inl ⟨?wt_11_40, ?hy_11_40⟩) (by assumption) ?rest_11_40
    case hi_11_40 => (simp only [List.getElem?_toArray, List.getElem?_cons_succ, List.getElem?_cons_zero]; rfl)
    case wt_11_40 => rfl
    case hy_11_40 => (intro w hSw; (try dsimp only at hSw); go_simp) <;> (first | done | with_reducible rfl)
    (try simp only [Act.put, List.setIfInBounds_toArray, List.set_cons_zero, List.set_cons_succ])
    refine wpAnyH_take (i := 41) (oi := ?oi_11_41) (v := ?v_11_41) ?hi_11_41 (by kernel_rfl) (by kernel_rfl) (by kernel_rfl) (fun _ _ _ h => h) (Or.inl ⟨?wt_11_41, ?hy_11_41⟩) (by assumption) ?rest_11_41
    case hi_11_41 => (simp only [List.getElem?_toArray, List.getElem?_cons_succ, List.getElem?_cons_zero]; rfl)
    case wt_11_41 => rfl
    case hy_11_41 => (intro w hSw; (try dsimp only at hSw); go_simp) <;> (first | done | with_reducible rfl)
    (try simp only [Act.put, List.setIfInBounds_toArray, List.set_cons_zero, List.set_cons_succ])
    refine wpAnyH_take (i := 42) (oi := ?oi_11_42) (v := undef) ?hi_11_42 (by kernel_rfl) (by kernel_rfl) (by kernel_rfl) (fun _ _ _ h => h) (Or.inr ⟨?wt_11_42, rfl⟩) (by assumption) ?rest_11_42
    case hi_11_42 => (simp only [List.getElem?_toArray, List.getElem?_cons_succ, List.getElem?_cons_zero]; rfl)
    case wt_11_42 => rfl
    (try simp only [Act.put, List.setIfInBounds_toArray, List.set_cons_zero, List.set_cons_succ])
    refine wpAnyH_take (i := 43) (oi := ?oi_11_43) (v := undef) ?hi_11_43 (by kernel_rfl) (by kernel_rfl) (by kernel_rfl) (fun _ _ _ h => h) (Or.inr ⟨?wt_11_43, rfl⟩) (by assumption) ?rest_11_43
    case hi_11_43 => (simp only [List.getElem?_toArray, List.getElem?_cons_succ, List.getElem?_cons_zero]; rfl)
    case wt_11_43 => rfl
    (try simp only [Act.put, List.setIfInBounds_toArray, List.set_cons_zero, List.set_cons_succ])
    refine wpAnyH_take (i := 44) (oi := ?oi_11_44) (v := undef) ?hi_11_44 (by kernel_rfl) (by kernel_rfl) (by kernel_rfl) (fun _ _ _ h => h) (Or.inr ⟨?wt_11_44, rfl⟩) (by assumption) ?rest_11_44
    case hi_11_44 => (simp only [List.getElem?_toArray, List.getElem?_cons_succ, List.getElem?_cons_zero]; rfl)
    case wt_11_44 => rfl
    (try simp only [Act.put, List.setIfInBounds_toArray, List.set_cons_zero, List.set_cons_succ])
    refine wpAnyH_take (i := 45) (oi := ?oi_11_45) (v := ?v_11_45) ?hi_11_45 (by kernel_rfl) (by kernel_rfl) (by kernel_rfl) (fun _ _ _ h => h) (Or.inl ⟨?wt_11_45, ?hy_11_45⟩) (by assumption) ?rest_11_45
    case hi_11_45 => (simp only [List.getElem?_toArray, List.getElem?_cons_succ, List.getElem?_cons_zero]; rfl)
    case wt_11_45 => rfl
    case hy_11_45 => (intro w hSw; (try dsimp only at hSw); go_simp) <;> (first | done | with_reducible rfl)
    (try simp only [Act.put, List.setIfInBounds_toArray, List.set_cons_zero, List.set_cons_succ])
    refine wpAnyH_take (i := 46) (oi := ?oi_11_46) (v := ?v_11_46) ?hi_11_46 (by kernel_rfl) (by kernel_rfl) (by kernel_rfl) (fun _ _ _ h => h) (Or.inl ⟨?wt_11_46, ?hy_11_46⟩) (by assumption) ?rest_11_46
    case hi_11_46 => (simp only [List.getElem?_toArray, List.getElem?_cons_succ, List.getElem?_cons_zero]; rfl)
    case wt_11_46 => rfl
    case hy_11_46 => (intro w hSw; (try dsimp only at hSw); go_simp) <;> (first | done | with_reducible rfl)
    (try simp only [Act.put, List.setIfInBounds_toArray, List.set_cons_zero, List.set_cons_succ])
    refine wpAnyH_take (i := 47) (oi := ?oi_11_47) (v := ?v_11_47) ?hi_11_47 (by kernel_rfl) (by kernel_rfl) (by kernel_rfl) (fun _ _ _ h => h) (Or.inl ⟨?wt_11_47, ?hy_11_47⟩) (by assumption) ?rest_11_47
    case hi_11_47 => (simp only [List.getElem?_toArray, List.getElem?_cons_succ, List.getElem?_cons_zero]; rfl)
    case wt_11_47 => rfl
    case hy_11_47 => (intro w hSw; (try dsimp only at hSw); go_simp) <;> (first | done | with_reducible rfl)
    (try simp only [Act.put, List.setIfInBounds_toArray, List.set_cons_zero, List.set_cons_succ])
    refine wpAnyH_done (by kernel_rfl) ?_ _
    refine NoPanic.normal ?_
    go_wp2
    go_ret
    exact ⟨rfl, HB9.out.drew⟩
end Go.Proofs.YtjogbgiknnfinaaDoor
