import Derived.Test.YtjogbgiknnfinaaDoorPlainText
import Derived.Test.YtjogbgiknnfinaaDoorPlain2
import Derived.Test.YtjogbgiknnfinaaDoorLaw8
/-! The law EdgeNumbers, walked. -/
set_option linter.unusedSimpArgs false
set_option linter.unusedVariables false
namespace Go.Proofs.YtjogbgiknnfinaaDoor
open Go.RowKit Go.Proofs.YtjogbgiknnfinaaDoorW.PrintWords Go.Proofs.YtjogbgiknnfinaaDoorW.PrintLast Go.Proofs.YtjogbgiknnfinaaDoorW.PrintMore

namespace Pl
theorem dec_nb (n : Nat) : ∀ c ∈ dec n, isBl c = false := by
  intro c hc
  have h := (dec_all n).1
  rw [List.all_eq_true] at h
  have h1 := h c hc
  have h2 : 48 ≤ c.toNat ∧ c.toNat ≤ 57 := by simpa [dig] using h1
  unfold isBl
  have n1 : c ≠ 32 := fun e => by rw [e] at h2; exact absurd h2.1 (by decide)
  have n2 : c ≠ 9 := fun e => by rw [e] at h2; exact absurd h2.1 (by decide)
  simp [n1, n2]
theorem dec_ne (n : Nat) : dec n ≠ [] := fun h => by have := (dec_all n).2.2.1; rw [h] at this; simp at this
theorem two_nums (a b : Nat) : ∃ i j, words 0 (dec a ++ [32] ++ dec b) = [(i, dec a), (j, dec b)] := by
  have := two_words [] (dec a) [32] (dec b) [] (by simp) (by simp [isBl]) (by simp) (by simp) (dec_nb a) (dec_nb b) (dec_ne a) (dec_ne b) 0
  simpa using this
theorem nums_edge {a b : Nat} (ha : a < 4294967296) (hb : b < 4294967296) : edge 0 (dec a ++ [32] ++ dec b) true = ⟨true, fixB 4 a, fixB 4 b, 0, 0⟩ ∧ edge 0 (dec a ++ [32] ++ dec b) false = ⟨true, dec a, dec b, 0, 0⟩ := by
  obtain ⟨i, j, hw⟩ := two_nums a b
  have la := dec_all a
  have lb := dec_all b
  have la2 := la.2.2.2 10 (by omega) (by omega)
  have lb2 := lb.2.2.2 10 (by omega) (by omega)
  constructor
  · unfold edge
    rw [hw]
    simp only
    rw [dec_label ha, dec_label hb]
  · unfold edge
    rw [hw]
    simp only
    rw [label_some ⟨la.2.2.1, by omega⟩, label_some ⟨lb.2.2.1, by omega⟩]
end Pl

set_option maxRecDepth 100000 in
set_option maxHeartbeats 4000000 in
theorem edgeNumbers_walk (a b : Int) (w : World) (ha0 : 0 ≤ a) (ha1 : a ≤ 4294967295) (hb0 : 0 ≤ b) (hb1 : b ≤ 4294967295) (htab : Tabs w) :
    Calls Tryd.prog 5 #[.int .u32 a, .int .u32 b] w fun e w' => e = .returned (.bool true) ∧ Below w.heap.size w w' := by
  obtain ⟨n, rfl⟩ := Int.eq_ofNat_of_zero_le ha0
  obtain ⟨m, rfl⟩ := Int.eq_ofNat_of_zero_le hb0
  have hn : n < 4294967296 := by omega
  have hm : m < 4294967296 := by omega
  have HN := Lib.hid hn
  have HM := Lib.hid hm
  have HT := Lib.hid htab
  have hE := Pl.nums_edge hn hm
  have la := Pl.dec_all n
  have lb := Pl.dec_all m
  have la2 := la.2.2.2 10 (by omega) (by omega)
  have lb2 := lb.2.2.2 10 (by omega) (by omega)
  have HTa := Lib.hid (Pl.text_fix hn)
  have HTb := Lib.hid (Pl.text_fix hm)
  obtain ⟨da, hda⟩ : ∃ d, Pl.dec n = d := ⟨_, rfl⟩
  obtain ⟨db, hdb⟩ : ∃ d, Pl.dec m = d := ⟨_, rfl⟩
  obtain ⟨fa, hfa⟩ : ∃ d, Pl.fixB 4 n = d := ⟨_, rfl⟩
  obtain ⟨fb, hfb⟩ : ∃ d, Pl.fixB 4 m = d := ⟨_, rfl⟩
  have hfal : fa.length = 4 := by rw [← hfa]; exact Pl.fixB_len 4 n
  have hfbl : fb.length = 4 := by rw [← hfb]; exact Pl.fixB_len 4 m
  rw [hda, hdb, hfa, hfb] at hE
  rw [hda] at la2
  rw [hdb] at lb2
  rw [hda, hfa] at HTa
  rw [hdb, hfb] at HTb
  have HD1 := fun w => (by have := digits_any n w HN.out; rw [hda] at this; exact Lib.hid this)
  have HD2 := fun w => (by have := digits_any m w HM.out; rw [hdb] at this; exact Lib.hid this)
  obtain ⟨ln, hln⟩ : ∃ z, da ++ [32] ++ db = z := ⟨_, rfl⟩
  have hlnl : ln.length ≤ 100 := by rw [← hln]; simp; omega
  rw [hln] at hE
  have HE1 := Lib.hid hE.1
  have HE2 := Lib.hid hE.2
  have HLN := Lib.hid hln
  have HFA := Lib.hid hfal
  have HFB := Lib.hid hfbl
  clear ha0 ha1 hb0 hb1 hn hm htab hE la lb hda hdb hfa hfb hln hfal hfbl
  go_enter Tryd.func5, Tryd.ntmps5
  go_wp2_with (go_at_call 11; refine (shown08_any _).mono ?_; rintro e w1 ⟨rfl, hb1⟩; have HB1 := Lib.hid hb1; clear hb1)
  refine (HD1 _).out.mono ?_
  rintro e w2 ⟨v2, rfl, ho2, hb2⟩
  have HO2 := Lib.hid ho2
  have HB2 := Lib.hid hb2
  have HB12 := Lib.hid (bthen HB1.out hb2)
  clear ho2 hb2
  go_wp2_with ((with_reducible refine gate_builtin (b := .append) (xs := #[.tmp 15, .tmp 16]) rfl ?_); at_builtin; refine app1 (w0 := w1) w1.heap.size rfl (.tmp 15) (.tmp 16) rfl v2 da 32 _ rfl rfl rfl HO2.out HB2.out HB2.out.size (by omega) ?_; intro v3 w3 ho3 hb3 hg3 hat3; have HO3 := Lib.hid ho3; have HB3 := Lib.hid hb3; clear ho3 hb3 hg3 hat3)
  refine (HD2 _).out.mono ?_
  rintro e w4 ⟨v4, rfl, ho4, hb4⟩
  have HO4 := Lib.hid ho4
  have HO34 := Lib.hid (HO3.out.below hb4)
  have HB4 := Lib.hid (HB3.out.trans (hb4.mono HB3.out.size) : Below w1.heap.size w1 w4)
  clear ho4 hb4 HO3 HB3
  go_wp2_with ((with_reducible refine gate_builtin (b := .append) (xs := #[.tmp 17, .tmp 19]) rfl ?_); at_builtin; refine appN (w0 := w1) w1.heap.size rfl (.tmp 17) (.tmp 19) rfl _ _ (da ++ [32]) db rfl rfl HO34.out HO4.out.rd HB4.out HB4.out.size ?_ ?_; (first | omega | (simp; omega)); intro v5 w5 ho5 hb5 hg5 hat5; rw [HLN.out] at ho5; obtain ⟨A5, c5, hv5⟩ := Kd.N_slice ho5; subst hv5; have HO5 := Lib.hid ho5; have HB5 := Lib.hid (bthen HB1.out hb5); clear ho5 hb5 hg5 hat5)
  have hpa := parse_any _ 0 ln true w5 HO5.out.rd (by omega) (by omega) (by omega)
  rw [HE1.out] at hpa
  refine hpa.mono ?_
  rintro e w6 ⟨va, vb, rfl, hoa, hob, hb6⟩
  have hoa' : Own kb 5 w6 w5.heap.size va fa := hoa
  have hob' : Own kb 5 w6 w5.heap.size vb fb := hob
  obtain ⟨A6, c6, hva⟩ := Kd.N_slice hoa'
  obtain ⟨B6, d6, hvb⟩ := Kd.N_slice hob'
  subst hva hvb
  have HA := Lib.hid hoa'
  have HBb := Lib.hid hob'
  have HB6 := Lib.hid (bthen HB5.out hb6)
  have HO56 := Lib.hid (HO5.out.below hb6)
  clear hpa hoa hob hoa' hob' hb6
  dsimp only
  go_wp2_with fail
  refine calls_at fun W7 hW7 => ?_
  have hb7 : Below w6.heap.size w6 W7 := by rw [← hW7]; exact below_alloc (Below.refl _ _) _
  have K7 : Blk W7 w6.heap.size #[.bool true, .slice A6 fa.length c6, .slice B6 fb.length d6, .int .i64 0, .int .i64 0] 32 := by rw [← hW7]; exact Blk.new _ _ _
  clear hW7
  have hT7 := text_any _ fa true W7 (Rd.below HA.out.rd hb7) (by have := HFA.out; omega) (HT.out.below (bthen HB6.out hb7))
  rw [HTa.out] at hT7
  refine hT7.mono ?_
  rintro e w8 ⟨v8, rfl, ho8, hb8⟩
  have ho8' : Own kb 5 w8 W7.heap.size v8 da := ho8
  obtain ⟨A8, c8, hv8⟩ := Kd.N_slice ho8'
  subst hv8
  have HO8 := Lib.hid ho8'
  have HB68 := Lib.hid (bthen hb7 hb8)
  have HB8 := Lib.hid (bthen HB6.out (bthen hb7 hb8))
  have K8 := K7.belowW hb8
  have c82 := K8.cell.1 2
  clear ho8 ho8' hb7 hb8 hT7 K7
  simp only [Option.isSome_some]
  go_wp2_with fail
  have hT8 := text_any _ fb true w8 (Rd.below HBb.out.rd HB68.out) (by have := HFB.out; omega) (HT.out.below HB8.out)
  rw [HTb.out] at hT8
  refine hT8.mono ?_
  rintro e w9 ⟨v9, rfl, ho9, hb9⟩
  have ho9' : Own kb 5 w9 w8.heap.size v9 db := ho9
  obtain ⟨A9, c9, hv9⟩ := Kd.N_slice ho9'
  subst hv9
  have HO9 := Lib.hid ho9'
  have HO89 := Lib.hid (HO8.out.below hb9)
  have HB69 := Lib.hid (bthen HB68.out hb9)
  have HB9 := Lib.hid (bthen HB8.out hb9)
  have K9 := K8.belowW hb9
  clear ho9 ho9' hb9 hT8 K8 c82 HO8
  simp only [Option.isSome_some]
  go_wp2_with fail
  have hpb := parse_any _ 0 ln false w9 (HO56.out.below HB69.out).rd (by omega) (by omega) (by omega)
  rw [HE2.out] at hpb
  refine hpb.mono ?_
  rintro e w10 ⟨vc, vd, rfl, hoc, hod, hb10⟩
  have hoc' : Own kb 5 w10 w9.heap.size vc da := hoc
  have hod' : Own kb 5 w10 w9.heap.size vd db := hod
  obtain ⟨A10, c10, hvc⟩ := Kd.N_slice hoc'
  obtain ⟨B10, d10, hvd⟩ := Kd.N_slice hod'
  subst hvc hvd
  have HC := Lib.hid hoc'
  have HO810 := Lib.hid (HO89.out.below hb10)
  have HO910 := Lib.hid (HO9.out.below hb10)
  have HB10 := Lib.hid (bthen HB9.out hb10)
  have K10 := K9.belowW hb10
  have hlt10 := K10.lt
  clear hpb hoc hod hoc' hod' hb10 K9 HO89 HO9 HA HBb HO56 HB69 HB68 HB9 HB8
  dsimp only
  go_wp2_with fail
  refine wp_at fun W hW => ?_
  have hbW : Below w10.heap.size w10 W := by rw [← hW]; exact below_alloc (Below.refl _ _) _
  have KB : Blk W w10.heap.size #[.bool true, .slice A10 da.length c10, .slice B10 db.length d10, .int .i64 0, .int .i64 0] 32 := by rw [← hW]; exact Blk.new _ _ _
  have KA := K10.belowW hbW
  clear hW
  have HBW := Lib.hid (bthen HB10.out hbW)
  have E8 := Lib.hid (HO810.out.below hbW)
  have E9 := Lib.hid (HO910.out.below hbW)
  have E10 := Lib.hid (HC.out.below hbW)
  have a0 := KA.cell.1 0
  have a1 := KA.cell.1 1
  have a3 := KA.cell.1 3
  have b0 := KB.cell.1 0
  have b1 := KB.cell.1 1
  have hlA : w6.heap.size < W.heap.size := KA.lt
  have hlB : w10.heap.size < W.heap.size := KB.lt
  have hfl : (fa.length : Int) = 4 := by have := HFA.out; omega
  have keep : ∀ X, Below W.heap.size W X → X.cell? ⟨w6.heap.size, 0, none⟩ = some (.bool true) ∧ X.cell? ⟨w6.heap.size, 1, none⟩ = some (.slice A6 fa.length c6) ∧ X.cell? ⟨w6.heap.size, 3, none⟩ = some (.int .i64 0) ∧ X.cell? ⟨w10.heap.size, 0, none⟩ = some (.bool true) ∧ X.cell? ⟨w10.heap.size, 1, none⟩ = some (.slice A10 da.length c10) ∧ (convert 22 9 (.slice A8 da.length c8)).run Tryd.prog X = .ok (.string ⟨da.toArray⟩) X ∧ (convert 22 9 (.slice A9 db.length c9)).run Tryd.prog X = .ok (.string ⟨db.toArray⟩) X ∧ (convert 22 9 (.slice A10 da.length c10)).run Tryd.prog X = .ok (.string ⟨da.toArray⟩) X := fun X hX =>
    ⟨(hX.cell (p := ⟨w6.heap.size, 0, none⟩) hlA).trans a0, (hX.cell (p := ⟨w6.heap.size, 1, none⟩) hlA).trans a1, (hX.cell (p := ⟨w6.heap.size, 3, none⟩) hlA).trans a3, (hX.cell (p := ⟨w10.heap.size, 0, none⟩) hlB).trans b0, (hX.cell (p := ⟨w10.heap.size, 1, none⟩) hlB).trans b1, byte_string (E8.out.below hX).rd, byte_string (E9.out.below hX).rd, byte_string (E10.out.below hX).rd⟩
  have KEEP := Lib.hid keep
  have hb12 := (Below.refl W.heap.size W).drew
  clear keep a0 a1 a3 b0 b1 KA KB K10 hlA hlB hbW
  refine wp_region_noPanic ?_
  refine wp_region_held_drew (S := (fun X => X.cell? ⟨w6.heap.size, 0, none⟩ = some (.bool true) ∧ X.cell? ⟨w6.heap.size, 1, none⟩ = some (.slice A6 fa.length c6) ∧ X.cell? ⟨w6.heap.size, 3, none⟩ = some (.int .i64 0) ∧ X.cell? ⟨w10.heap.size, 0, none⟩ = some (.bool true) ∧ X.cell? ⟨w10.heap.size, 1, none⟩ = some (.slice A10 da.length c10) ∧ (convert 22 9 (.slice A8 da.length c8)).run Tryd.prog X = .ok (.string ⟨da.toArray⟩) X ∧ (convert 22 9 (.slice A9 db.length c9)).run Tryd.prog X = .ok (.string ⟨db.toArray⟩) X ∧ (convert 22 9 (.slice A10 da.length c10)).run Tryd.prog X = .ok (.string ⟨da.toArray⟩) X)) (by kernel_rfl) ?_ (fun hHeld => ?_)
  · (try dsimp only); exact KEEP.out _ hb12
  refine wpAnyH_take (i := 0) (oi := ?oi0) (v := ?v0) ?hi0 (by kernel_rfl) (by kernel_rfl) (by kernel_rfl) (fun _ _ _ h => h) (Or.inl ⟨?wt0, ?hy0⟩) (by assumption) ?rest0
  case hi0 => (simp only [List.getElem?_toArray, List.getElem?_cons_succ, List.getElem?_cons_zero]; rfl)
  case wt0 => rfl
  case hy0 => (intro w hSw; (try dsimp only at hSw); go_simp) <;> with_reducible rfl
  (try simp only [Act.put, List.setIfInBounds_toArray, List.set_cons_zero, List.set_cons_succ])
  refine wpAnyH_take (i := 1) (oi := ?oi1) (v := ?v1) ?hi1 (by kernel_rfl) (by kernel_rfl) (by kernel_rfl) (fun _ _ _ h => h) (Or.inl ⟨?wt1, ?hy1⟩) (by assumption) ?rest1
  case hi1 => (simp only [List.getElem?_toArray, List.getElem?_cons_succ, List.getElem?_cons_zero]; rfl)
  case wt1 => rfl
  case hy1 => (intro w hSw; (try dsimp only at hSw); go_simp) <;> with_reducible rfl
  (try simp only [Act.put, List.setIfInBounds_toArray, List.set_cons_zero, List.set_cons_succ])
  refine wpAnyH_take (i := 2) (oi := ?oi2) (v := ?v2) ?hi2 (by kernel_rfl) (by kernel_rfl) (by kernel_rfl) (fun _ _ _ h => h) (Or.inl ⟨?wt2, ?hy2⟩) (by assumption) ?rest2
  case hi2 => (simp only [List.getElem?_toArray, List.getElem?_cons_succ, List.getElem?_cons_zero]; rfl)
  case wt2 => rfl
  case hy2 => (intro w hSw; (try dsimp only at hSw); go_simp) <;> with_reducible rfl
  (try simp only [Act.put, List.setIfInBounds_toArray, List.set_cons_zero, List.set_cons_succ])
  refine wpAnyH_take (i := 3) (oi := ?oi3) (v := ?v3) ?hi3 (by kernel_rfl) (by kernel_rfl) (by kernel_rfl) (fun _ _ _ h => h) (Or.inl ⟨?wt3, ?hy3⟩) (by assumption) ?rest3
  case hi3 => (simp only [List.getElem?_toArray, List.getElem?_cons_succ, List.getElem?_cons_zero]; rfl)
  case wt3 => rfl
  case hy3 => (intro w hSw; (try dsimp only at hSw); go_simp) <;> with_reducible rfl
  (try simp only [Act.put, List.setIfInBounds_toArray, List.set_cons_zero, List.set_cons_succ])
  refine wpAnyH_take (i := 4) (oi := ?oi4) (v := ?v4) ?hi4 (by kernel_rfl) (by kernel_rfl) (by kernel_rfl) (fun _ _ _ h => h) (Or.inl ⟨?wt4, ?hy4⟩) (by assumption) ?rest4
  case hi4 => (simp only [List.getElem?_toArray, List.getElem?_cons_succ, List.getElem?_cons_zero]; rfl)
  case wt4 => rfl
  case hy4 => (intro w hSw; (try dsimp only at hSw); go_simp) <;> with_reducible rfl
  (try simp only [Act.put, List.setIfInBounds_toArray, List.set_cons_zero, List.set_cons_succ])
  refine wpAnyH_take (i := 5) (oi := ?oi5) (v := ?v5) ?hi5 (by kernel_rfl) (by kernel_rfl) (by kernel_rfl) (fun _ _ _ h => h) (Or.inl ⟨?wt5, ?hy5⟩) (by assumption) ?rest5
  case hi5 => (simp only [List.getElem?_toArray, List.getElem?_cons_succ, List.getElem?_cons_zero]; rfl)
  case wt5 => rfl
  case hy5 => (intro w hSw; (try dsimp only at hSw); go_simp) <;> with_reducible rfl
  (try simp only [Act.put, List.setIfInBounds_toArray, List.set_cons_zero, List.set_cons_succ])
  refine wpAnyH_take (i := 6) (oi := ?oi6) (v := ?v6) ?hi6 (by kernel_rfl) (by kernel_rfl) (by kernel_rfl) (fun _ _ _ h => h) (Or.inl ⟨?wt6, ?hy6⟩) (by assumption) ?rest6
  case hi6 => (simp only [List.getElem?_toArray, List.getElem?_cons_succ, List.getElem?_cons_zero]; rfl)
  case wt6 => rfl
  case hy6 => (intro w hSw; (try dsimp only at hSw); go_simp) <;> with_reducible rfl
  (try simp only [Act.put, List.setIfInBounds_toArray, List.set_cons_zero, List.set_cons_succ])
  refine wpAnyH_take (i := 7) (oi := ?oi7) (v := ?v7) ?hi7 (by kernel_rfl) (by kernel_rfl) (by kernel_rfl) (fun _ _ _ h => h) (Or.inl ⟨?wt7, ?hy7⟩) (by assumption) ?rest7
  case hi7 => (simp only [List.getElem?_toArray, List.getElem?_cons_succ, List.getElem?_cons_zero]; rfl)
  case wt7 => rfl
  case hy7 => (intro w hSw; (try dsimp only at hSw); go_simp) <;> with_reducible rfl
  (try simp only [Act.put, List.setIfInBounds_toArray, List.set_cons_zero, List.set_cons_succ])
  refine wpAnyH_take (i := 8) (oi := ?oi8) (v := ?v8) ?hi8 (by kernel_rfl) (by kernel_rfl) (by kernel_rfl) (fun _ _ _ h => h) (Or.inl ⟨?wt8, ?hy8⟩) (by assumption) ?rest8
  case hi8 => (simp only [List.getElem?_toArray, List.getElem?_cons_succ, List.getElem?_cons_zero]; rfl)
  case wt8 => rfl
  case hy8 => (intro w hSw; (try dsimp only at hSw); go_simp) <;> with_reducible rfl
  (try simp only [Act.put, List.setIfInBounds_toArray, List.set_cons_zero, List.set_cons_succ])
  refine wpAnyH_take (i := 9) (oi := ?oi9) (v := ?v9) ?hi9 (by kernel_rfl) (by kernel_rfl) (by kernel_rfl) (fun _ _ _ h => h) (Or.inl ⟨?wt9, ?hy9⟩) (by assumption) ?rest9
  case hi9 => (simp only [List.getElem?_toArray, List.getElem?_cons_succ, List.getElem?_cons_zero]; rfl)
  case wt9 => rfl
  case hy9 => (intro w hSw; (try dsimp only at hSw); go_simp) <;> with_reducible rfl
  (try simp only [Act.put, List.setIfInBounds_toArray, List.set_cons_zero, List.set_cons_succ])
  refine wpAnyH_take (i := 10) (oi := ?oi10) (v := ?v10) ?hi10 (by kernel_rfl) (by kernel_rfl) (by kernel_rfl) (fun _ _ _ h => h) (Or.inl ⟨?wt10, ?hy10⟩) (by assumption) ?rest10
  case hi10 => (simp only [List.getElem?_toArray, List.getElem?_cons_succ, List.getElem?_cons_zero]; rfl)
  case wt10 => rfl
  case hy10 => (intro w hSw; (try dsimp only at hSw); go_simp) <;> with_reducible rfl
  (try simp only [Act.put, List.setIfInBounds_toArray, List.set_cons_zero, List.set_cons_succ])
  refine wpAnyH_take (i := 11) (oi := ?oi11) (v := ?v11) ?hi11 (by kernel_rfl) (by kernel_rfl) (by kernel_rfl) (fun _ _ _ h => h) (Or.inl ⟨?wt11, ?hy11⟩) (by assumption) ?rest11
  case hi11 => (simp only [List.getElem?_toArray, List.getElem?_cons_succ, List.getElem?_cons_zero]; rfl)
  case wt11 => rfl
  case hy11 => (intro w hSw; (try dsimp only at hSw); go_simp) <;> with_reducible rfl
  (try simp only [Act.put, List.setIfInBounds_toArray, List.set_cons_zero, List.set_cons_succ])
  refine wpAnyH_take (i := 12) (oi := ?oi12) (v := ?v12) ?hi12 (by kernel_rfl) (by kernel_rfl) (by kernel_rfl) (fun _ _ _ h => h) (Or.inl ⟨?wt12, ?hy12⟩) (by assumption) ?rest12
  case hi12 => (simp only [List.getElem?_toArray, List.getElem?_cons_succ, List.getElem?_cons_zero]; rfl)
  case wt12 => rfl
  case hy12 => (intro w hSw; (try dsimp only at hSw); go_simp) <;> with_reducible rfl
  (try simp only [Act.put, List.setIfInBounds_toArray, List.set_cons_zero, List.set_cons_succ])
  refine wpAnyH_take (i := 13) (oi := ?oi13) (v := ?v13) ?hi13 (by kernel_rfl) (by kernel_rfl) (by kernel_rfl) (fun _ _ _ h => h) (Or.inl ⟨?wt13, ?hy13⟩) (by assumption) ?rest13
  case hi13 => (simp only [List.getElem?_toArray, List.getElem?_cons_succ, List.getElem?_cons_zero]; rfl)
  case wt13 => rfl
  case hy13 => (intro w hSw; (try dsimp only at hSw); go_simp) <;> with_reducible rfl
  (try simp only [Act.put, List.setIfInBounds_toArray, List.set_cons_zero, List.set_cons_succ])
  refine wpAnyH_take (i := 14) (oi := ?oi14) (v := ?v14) ?hi14 (by kernel_rfl) (by kernel_rfl) (by kernel_rfl) (fun _ _ _ h => h) (Or.inl ⟨?wt14, ?hy14⟩) (by assumption) ?rest14
  case hi14 => (simp only [List.getElem?_toArray, List.getElem?_cons_succ, List.getElem?_cons_zero]; rfl)
  case wt14 => rfl
  case hy14 => (intro w hSw; (try dsimp only at hSw); go_simp) <;> with_reducible rfl
  (try simp only [Act.put, List.setIfInBounds_toArray, List.set_cons_zero, List.set_cons_succ])
  refine wpAnyH_take (i := 15) (oi := ?oi15) (v := ?v15) ?hi15 (by kernel_rfl) (by kernel_rfl) (by kernel_rfl) (fun _ _ _ h => h) (Or.inl ⟨?wt15, ?hy15⟩) (by assumption) ?rest15
  case hi15 => (simp only [List.getElem?_toArray, List.getElem?_cons_succ, List.getElem?_cons_zero]; rfl)
  case wt15 => rfl
  case hy15 => (intro w hSw; (try dsimp only at hSw); go_simp) <;> with_reducible rfl
  (try simp only [Act.put, List.setIfInBounds_toArray, List.set_cons_zero, List.set_cons_succ])
  refine wpAnyH_take (i := 16) (oi := ?oi16) (v := ?v16) ?hi16 (by kernel_rfl) (by kernel_rfl) (by kernel_rfl) (fun _ _ _ h => h) (Or.inl ⟨?wt16, ?hy16⟩) (by assumption) ?rest16
  case hi16 => (simp only [List.getElem?_toArray, List.getElem?_cons_succ, List.getElem?_cons_zero]; rfl)
  case wt16 => rfl
  case hy16 => (intro w hSw; (try dsimp only at hSw); go_simp) <;> with_reducible rfl
  (try simp only [Act.put, List.setIfInBounds_toArray, List.set_cons_zero, List.set_cons_succ])
  refine wpAnyH_take (i := 17) (oi := ?oi17) (v := ?v17) ?hi17 (by kernel_rfl) (by kernel_rfl) (by kernel_rfl) (fun _ _ _ h => h) (Or.inl ⟨?wt17, ?hy17⟩) (by assumption) ?rest17
  case hi17 => (simp only [List.getElem?_toArray, List.getElem?_cons_succ, List.getElem?_cons_zero]; rfl)
  case wt17 => rfl
  case hy17 => (intro w hSw; (try dsimp only at hSw); go_simp) <;> with_reducible rfl
  (try simp only [Act.put, List.setIfInBounds_toArray, List.set_cons_zero, List.set_cons_succ])
  refine wpAnyH_take (i := 18) (oi := ?oi18) (v := ?v18) ?hi18 (by kernel_rfl) (by kernel_rfl) (by kernel_rfl) (fun _ _ _ h => h) (Or.inl ⟨?wt18, ?hy18⟩) (by assumption) ?rest18
  case hi18 => (simp only [List.getElem?_toArray, List.getElem?_cons_succ, List.getElem?_cons_zero]; rfl)
  case wt18 => rfl
  case hy18 => (intro w hSw; (try dsimp only at hSw); go_simp) <;> with_reducible rfl
  (try simp only [Act.put, List.setIfInBounds_toArray, List.set_cons_zero, List.set_cons_succ])
  refine wpAnyH_take (i := 19) (oi := ?oi19) (v := ?v19) ?hi19 (by kernel_rfl) (by kernel_rfl) (by kernel_rfl) (fun _ _ _ h => h) (Or.inl ⟨?wt19, ?hy19⟩) (by assumption) ?rest19
  case hi19 => (simp only [List.getElem?_toArray, List.getElem?_cons_succ, List.getElem?_cons_zero]; rfl)
  case wt19 => rfl
  case hy19 => (intro w hSw; (try dsimp only at hSw); go_simp) <;> with_reducible rfl
  (try simp only [Act.put, List.setIfInBounds_toArray, List.set_cons_zero, List.set_cons_succ])
  refine wpAnyH_ready (rs := [20]) (by kernel_rfl) (by simp) ?_
  refine AllReadyH.cons rfl (fun K hK => ?_) AllReadyH.nil
  go_simp
  (go_at_call 12; refine (HD1 _).out.mono ?_; rintro e w13 ⟨v13, rfl, ho13, hbx13⟩; have hb13 := bthen hb12 hbx13; obtain ⟨A13, c13, hv13⟩ := Kd.N_slice ho13; subst hv13; have e13 := byte_string ho13.rd)
  go_wp2_with fail
  refine hK.out _ _ ?_ (fun hHeld => ?_)
  · (try dsimp only); exact KEEP.out _ hb13
  clear hK K
  (try simp only [Act.put, List.setIfInBounds_toArray, List.set_cons_zero, List.set_cons_succ])
  refine wpAnyH_ready (rs := [21]) (by kernel_rfl) (by simp) ?_
  refine AllReadyH.cons rfl (fun K hK => ?_) AllReadyH.nil
  go_simp
  refine hK.out _ _ ?_ (fun hHeld => ?_)
  · (try dsimp only); exact KEEP.out _ hb13
  clear hK K
  (try simp only [Act.put, List.setIfInBounds_toArray, List.set_cons_zero, List.set_cons_succ])
  refine wpAnyH_take (i := 22) (oi := ?oi22) (v := ?v22) ?hi22 (by kernel_rfl) (by kernel_rfl) (by kernel_rfl) (fun _ _ _ h => h) (Or.inl ⟨?wt22, ?hy22⟩) (by assumption) ?rest22
  case hi22 => (simp only [List.getElem?_toArray, List.getElem?_cons_succ, List.getElem?_cons_zero]; rfl)
  case wt22 => rfl
  case hy22 => (intro w hSw; (try dsimp only at hSw); go_simp) <;> with_reducible rfl
  (try simp only [Act.put, List.setIfInBounds_toArray, List.set_cons_zero, List.set_cons_succ])
  refine wpAnyH_take (i := 23) (oi := ?oi23) (v := ?v23) ?hi23 (by kernel_rfl) (by kernel_rfl) (by kernel_rfl) (fun _ _ _ h => h) (Or.inl ⟨?wt23, ?hy23⟩) (by assumption) ?rest23
  case hi23 => (simp only [List.getElem?_toArray, List.getElem?_cons_succ, List.getElem?_cons_zero]; rfl)
  case wt23 => rfl
  case hy23 => (intro w hSw; (try dsimp only at hSw); go_simp) <;> with_reducible rfl
  (try simp only [Act.put, List.setIfInBounds_toArray, List.set_cons_zero, List.set_cons_succ])
  refine wpAnyH_take (i := 24) (oi := ?oi24) (v := ?v24) ?hi24 (by kernel_rfl) (by kernel_rfl) (by kernel_rfl) (fun _ _ _ h => h) (Or.inl ⟨?wt24, ?hy24⟩) (by assumption) ?rest24
  case hi24 => (simp only [List.getElem?_toArray, List.getElem?_cons_succ, List.getElem?_cons_zero]; rfl)
  case wt24 => rfl
  case hy24 => (intro w hSw; (try dsimp only at hSw); go_simp) <;> with_reducible rfl
  (try simp only [Act.put, List.setIfInBounds_toArray, List.set_cons_zero, List.set_cons_succ])
  refine wpAnyH_take (i := 25) (oi := ?oi25) (v := ?v25) ?hi25 (by kernel_rfl) (by kernel_rfl) (by kernel_rfl) (fun _ _ _ h => h) (Or.inl ⟨?wt25, ?hy25⟩) (by assumption) ?rest25
  case hi25 => (simp only [List.getElem?_toArray, List.getElem?_cons_succ, List.getElem?_cons_zero]; rfl)
  case wt25 => rfl
  case hy25 => (intro w hSw; (try dsimp only at hSw); go_simp) <;> with_reducible rfl
  (try simp only [Act.put, List.setIfInBounds_toArray, List.set_cons_zero, List.set_cons_succ])
  refine wpAnyH_take (i := 26) (oi := ?oi26) (v := ?v26) ?hi26 (by kernel_rfl) (by kernel_rfl) (by kernel_rfl) (fun _ _ _ h => h) (Or.inl ⟨?wt26, ?hy26⟩) (by assumption) ?rest26
  case hi26 => (simp only [List.getElem?_toArray, List.getElem?_cons_succ, List.getElem?_cons_zero]; rfl)
  case wt26 => rfl
  case hy26 => (intro w hSw; (try dsimp only at hSw); go_simp) <;> with_reducible rfl
  (try simp only [Act.put, List.setIfInBounds_toArray, List.set_cons_zero, List.set_cons_succ])
  refine wpAnyH_take (i := 27) (oi := ?oi27) (v := ?v27) ?hi27 (by kernel_rfl) (by kernel_rfl) (by kernel_rfl) (fun _ _ _ h => h) (Or.inl ⟨?wt27, ?hy27⟩) (by assumption) ?rest27
  case hi27 => (simp only [List.getElem?_toArray, List.getElem?_cons_succ, List.getElem?_cons_zero]; rfl)
  case wt27 => rfl
  case hy27 => (intro w hSw; (try dsimp only at hSw); go_simp) <;> with_reducible rfl
  (try simp only [Act.put, List.setIfInBounds_toArray, List.set_cons_zero, List.set_cons_succ])
  refine wpAnyH_ready (rs := [28]) (by kernel_rfl) (by simp) ?_
  refine AllReadyH.cons rfl (fun K hK => ?_) AllReadyH.nil
  go_simp
  (go_at_call 12; refine (HD2 _).out.mono ?_; rintro e w14 ⟨v14, rfl, ho14, hbx14⟩; have hb14 := bthen hb13 hbx14; obtain ⟨A14, c14, hv14⟩ := Kd.N_slice ho14; subst hv14; have e14 := byte_string ho14.rd)
  go_wp2_with fail
  refine hK.out _ _ ?_ (fun hHeld => ?_)
  · (try dsimp only); exact KEEP.out _ hb14
  clear hK K
  (try simp only [Act.put, List.setIfInBounds_toArray, List.set_cons_zero, List.set_cons_succ])
  refine wpAnyH_ready (rs := [29]) (by kernel_rfl) (by simp) ?_
  refine AllReadyH.cons rfl (fun K hK => ?_) AllReadyH.nil
  go_simp
  refine hK.out _ _ ?_ (fun hHeld => ?_)
  · (try dsimp only); exact KEEP.out _ hb14
  clear hK K
  (try simp only [Act.put, List.setIfInBounds_toArray, List.set_cons_zero, List.set_cons_succ])
  refine wpAnyH_take (i := 30) (oi := ?oi30) (v := ?v30) ?hi30 (by kernel_rfl) (by kernel_rfl) (by kernel_rfl) (fun _ _ _ h => h) (Or.inl ⟨?wt30, ?hy30⟩) (by assumption) ?rest30
  case hi30 => (simp only [List.getElem?_toArray, List.getElem?_cons_succ, List.getElem?_cons_zero]; rfl)
  case wt30 => rfl
  case hy30 => (intro w hSw; (try dsimp only at hSw); go_simp) <;> with_reducible rfl
  (try simp only [Act.put, List.setIfInBounds_toArray, List.set_cons_zero, List.set_cons_succ])
  refine wpAnyH_take (i := 31) (oi := ?oi31) (v := ?v31) ?hi31 (by kernel_rfl) (by kernel_rfl) (by kernel_rfl) (fun _ _ _ h => h) (Or.inl ⟨?wt31, ?hy31⟩) (by assumption) ?rest31
  case hi31 => (simp only [List.getElem?_toArray, List.getElem?_cons_succ, List.getElem?_cons_zero]; rfl)
  case wt31 => rfl
  case hy31 => (intro w hSw; (try dsimp only at hSw); go_simp) <;> with_reducible rfl
  (try simp only [Act.put, List.setIfInBounds_toArray, List.set_cons_zero, List.set_cons_succ])
  refine wpAnyH_take (i := 32) (oi := ?oi32) (v := ?v32) ?hi32 (by kernel_rfl) (by kernel_rfl) (by kernel_rfl) (fun _ _ _ h => h) (Or.inl ⟨?wt32, ?hy32⟩) (by assumption) ?rest32
  case hi32 => (simp only [List.getElem?_toArray, List.getElem?_cons_succ, List.getElem?_cons_zero]; rfl)
  case wt32 => rfl
  case hy32 => (intro w hSw; (try dsimp only at hSw); go_simp) <;> with_reducible rfl
  (try simp only [Act.put, List.setIfInBounds_toArray, List.set_cons_zero, List.set_cons_succ])
  refine wpAnyH_take (i := 33) (oi := ?oi33) (v := ?v33) ?hi33 (by kernel_rfl) (by kernel_rfl) (by kernel_rfl) (fun _ _ _ h => h) (Or.inl ⟨?wt33, ?hy33⟩) (by assumption) ?rest33
  case hi33 => (simp only [List.getElem?_toArray, List.getElem?_cons_succ, List.getElem?_cons_zero]; rfl)
  case wt33 => rfl
  case hy33 => (intro w hSw; (try dsimp only at hSw); go_simp) <;> with_reducible rfl
  (try simp only [Act.put, List.setIfInBounds_toArray, List.set_cons_zero, List.set_cons_succ])
  refine wpAnyH_take (i := 34) (oi := ?oi34) (v := ?v34) ?hi34 (by kernel_rfl) (by kernel_rfl) (by kernel_rfl) (fun _ _ _ h => h) (Or.inl ⟨?wt34, ?hy34⟩) (by assumption) ?rest34
  case hi34 => (simp only [List.getElem?_toArray, List.getElem?_cons_succ, List.getElem?_cons_zero]; rfl)
  case wt34 => rfl
  case hy34 => (intro w hSw; (try dsimp only at hSw); go_simp) <;> with_reducible rfl
  (try simp only [Act.put, List.setIfInBounds_toArray, List.set_cons_zero, List.set_cons_succ])
  refine wpAnyH_take (i := 35) (oi := ?oi35) (v := ?v35) ?hi35 (by kernel_rfl) (by kernel_rfl) (by kernel_rfl) (fun _ _ _ h => h) (Or.inl ⟨?wt35, ?hy35⟩) (by assumption) ?rest35
  case hi35 => (simp only [List.getElem?_toArray, List.getElem?_cons_succ, List.getElem?_cons_zero]; rfl)
  case wt35 => rfl
  case hy35 => (intro w hSw; (try dsimp only at hSw); go_simp) <;> with_reducible rfl
  (try simp only [Act.put, List.setIfInBounds_toArray, List.set_cons_zero, List.set_cons_succ])
  refine wpAnyH_take (i := 36) (oi := ?oi36) (v := ?v36) ?hi36 (by kernel_rfl) (by kernel_rfl) (by kernel_rfl) (fun _ _ _ h => h) (Or.inl ⟨?wt36, ?hy36⟩) (by assumption) ?rest36
  case hi36 => (simp only [List.getElem?_toArray, List.getElem?_cons_succ, List.getElem?_cons_zero]; rfl)
  case wt36 => rfl
  case hy36 => (intro w hSw; (try dsimp only at hSw); go_simp) <;> with_reducible rfl
  (try simp only [Act.put, List.setIfInBounds_toArray, List.set_cons_zero, List.set_cons_succ])
  refine wpAnyH_take (i := 37) (oi := ?oi37) (v := ?v37) ?hi37 (by kernel_rfl) (by kernel_rfl) (by kernel_rfl) (fun _ _ _ h => h) (Or.inl ⟨?wt37, ?hy37⟩) (by assumption) ?rest37
  case hi37 => (simp only [List.getElem?_toArray, List.getElem?_cons_succ, List.getElem?_cons_zero]; rfl)
  case wt37 => rfl
  case hy37 => (intro w hSw; (try dsimp only at hSw); go_simp) <;> with_reducible rfl
  (try simp only [Act.put, List.setIfInBounds_toArray, List.set_cons_zero, List.set_cons_succ])
  refine wpAnyH_take (i := 38) (oi := ?oi38) (v := ?v38) ?hi38 (by kernel_rfl) (by kernel_rfl) (by kernel_rfl) (fun _ _ _ h => h) (Or.inl ⟨?wt38, ?hy38⟩) (by assumption) ?rest38
  case hi38 => (simp only [List.getElem?_toArray, List.getElem?_cons_succ, List.getElem?_cons_zero]; rfl)
  case wt38 => rfl
  case hy38 => (intro w hSw; (try dsimp only at hSw); go_simp) <;> with_reducible rfl
  (try simp only [Act.put, List.setIfInBounds_toArray, List.set_cons_zero, List.set_cons_succ])
  refine wpAnyH_take (i := 39) (oi := ?oi39) (v := ?v39) ?hi39 (by kernel_rfl) (by kernel_rfl) (by kernel_rfl) (fun _ _ _ h => h) (Or.inl ⟨?wt39, ?hy39⟩) (by assumption) ?rest39
  case hi39 => (simp only [List.getElem?_toArray, List.getElem?_cons_succ, List.getElem?_cons_zero]; rfl)
  case wt39 => rfl
  case hy39 => (intro w hSw; (try dsimp only at hSw); go_simp) <;> with_reducible rfl
  (try simp only [Act.put, List.setIfInBounds_toArray, List.set_cons_zero, List.set_cons_succ])
  refine wpAnyH_take (i := 40) (oi := ?oi40) (v := ?v40) ?hi40 (by kernel_rfl) (by kernel_rfl) (by kernel_rfl) (fun _ _ _ h => h) (Or.inl ⟨?wt40, ?hy40⟩) (by assumption) ?rest40
  case hi40 => (simp only [List.getElem?_toArray, List.getElem?_cons_succ, List.getElem?_cons_zero]; rfl)
  case wt40 => rfl
  case hy40 => (intro w hSw; (try dsimp only at hSw); go_simp) <;> with_reducible rfl
  (try simp only [Act.put, List.setIfInBounds_toArray, List.set_cons_zero, List.set_cons_succ])
  refine wpAnyH_take (i := 41) (oi := ?oi41) (v := ?v41) ?hi41 (by kernel_rfl) (by kernel_rfl) (by kernel_rfl) (fun _ _ _ h => h) (Or.inl ⟨?wt41, ?hy41⟩) (by assumption) ?rest41
  case hi41 => (simp only [List.getElem?_toArray, List.getElem?_cons_succ, List.getElem?_cons_zero]; rfl)
  case wt41 => rfl
  case hy41 => (intro w hSw; (try dsimp only at hSw); go_simp) <;> with_reducible rfl
  (try simp only [Act.put, List.setIfInBounds_toArray, List.set_cons_zero, List.set_cons_succ])
  refine wpAnyH_take (i := 42) (oi := ?oi42) (v := ?v42) ?hi42 (by kernel_rfl) (by kernel_rfl) (by kernel_rfl) (fun _ _ _ h => h) (Or.inl ⟨?wt42, ?hy42⟩) (by assumption) ?rest42
  case hi42 => (simp only [List.getElem?_toArray, List.getElem?_cons_succ, List.getElem?_cons_zero]; rfl)
  case wt42 => rfl
  case hy42 => (intro w hSw; (try dsimp only at hSw); go_simp) <;> with_reducible rfl
  (try simp only [Act.put, List.setIfInBounds_toArray, List.set_cons_zero, List.set_cons_succ])
  refine wpAnyH_take (i := 43) (oi := ?oi43) (v := ?v43) ?hi43 (by kernel_rfl) (by kernel_rfl) (by kernel_rfl) (fun _ _ _ h => h) (Or.inl ⟨?wt43, ?hy43⟩) (by assumption) ?rest43
  case hi43 => (simp only [List.getElem?_toArray, List.getElem?_cons_succ, List.getElem?_cons_zero]; rfl)
  case wt43 => rfl
  case hy43 => (intro w hSw; (try dsimp only at hSw); go_simp) <;> with_reducible rfl
  (try simp only [Act.put, List.setIfInBounds_toArray, List.set_cons_zero, List.set_cons_succ])
  refine wpAnyH_take (i := 44) (oi := ?oi44) (v := ?v44) ?hi44 (by kernel_rfl) (by kernel_rfl) (by kernel_rfl) (fun _ _ _ h => h) (Or.inl ⟨?wt44, ?hy44⟩) (by assumption) ?rest44
  case hi44 => (simp only [List.getElem?_toArray, List.getElem?_cons_succ, List.getElem?_cons_zero]; rfl)
  case wt44 => rfl
  case hy44 => (intro w hSw; (try dsimp only at hSw); go_simp) <;> with_reducible rfl
  (try simp only [Act.put, List.setIfInBounds_toArray, List.set_cons_zero, List.set_cons_succ])
  refine wpAnyH_take (i := 45) (oi := ?oi45) (v := ?v45) ?hi45 (by kernel_rfl) (by kernel_rfl) (by kernel_rfl) (fun _ _ _ h => h) (Or.inl ⟨?wt45, ?hy45⟩) (by assumption) ?rest45
  case hi45 => (simp only [List.getElem?_toArray, List.getElem?_cons_succ, List.getElem?_cons_zero]; rfl)
  case wt45 => rfl
  case hy45 => (intro w hSw; (try dsimp only at hSw); go_simp) <;> with_reducible rfl
  (try simp only [Act.put, List.setIfInBounds_toArray, List.set_cons_zero, List.set_cons_succ])
  refine wpAnyH_take (i := 46) (oi := ?oi46) (v := ?v46) ?hi46 (by kernel_rfl) (by kernel_rfl) (by kernel_rfl) (fun _ _ _ h => h) (Or.inl ⟨?wt46, ?hy46⟩) (by assumption) ?rest46
  case hi46 => (simp only [List.getElem?_toArray, List.getElem?_cons_succ, List.getElem?_cons_zero]; rfl)
  case wt46 => rfl
  case hy46 => (intro w hSw; (try dsimp only at hSw); go_simp) <;> with_reducible rfl
  (try simp only [Act.put, List.setIfInBounds_toArray, List.set_cons_zero, List.set_cons_succ])
  refine wpAnyH_ready (rs := [47]) (by kernel_rfl) (by simp) ?_
  refine AllReadyH.cons rfl (fun K hK => ?_) AllReadyH.nil
  go_simp
  (go_at_call 12; refine (HD1 _).out.mono ?_; rintro e w15 ⟨v15, rfl, ho15, hbx15⟩; have hb15 := bthen hb14 hbx15; obtain ⟨A15, c15, hv15⟩ := Kd.N_slice ho15; subst hv15; have e15 := byte_string ho15.rd)
  go_wp2_with fail
  refine hK.out _ _ ?_ (fun hHeld => ?_)
  · (try dsimp only); exact KEEP.out _ hb15
  clear hK K
  (try simp only [Act.put, List.setIfInBounds_toArray, List.set_cons_zero, List.set_cons_succ])
  refine wpAnyH_ready (rs := [48]) (by kernel_rfl) (by simp) ?_
  refine AllReadyH.cons rfl (fun K hK => ?_) AllReadyH.nil
  go_simp
  refine hK.out _ _ ?_ (fun hHeld => ?_)
  · (try dsimp only); exact KEEP.out _ hb15
  clear hK K
  (try simp only [Act.put, List.setIfInBounds_toArray, List.set_cons_zero, List.set_cons_succ])
  refine wpAnyH_take (i := 49) (oi := ?oi49) (v := ?v49) ?hi49 (by kernel_rfl) (by kernel_rfl) (by kernel_rfl) (fun _ _ _ h => h) (Or.inl ⟨?wt49, ?hy49⟩) (by assumption) ?rest49
  case hi49 => (simp only [List.getElem?_toArray, List.getElem?_cons_succ, List.getElem?_cons_zero]; rfl)
  case wt49 => rfl
  case hy49 => (intro w hSw; (try dsimp only at hSw); go_simp) <;> with_reducible rfl
  (try simp only [Act.put, List.setIfInBounds_toArray, List.set_cons_zero, List.set_cons_succ])
  refine wpAnyH_take (i := 50) (oi := ?oi50) (v := ?v50) ?hi50 (by kernel_rfl) (by kernel_rfl) (by kernel_rfl) (fun _ _ _ h => h) (Or.inl ⟨?wt50, ?hy50⟩) (by assumption) ?rest50
  case hi50 => (simp only [List.getElem?_toArray, List.getElem?_cons_succ, List.getElem?_cons_zero]; rfl)
  case wt50 => rfl
  case hy50 => (intro w hSw; (try dsimp only at hSw); go_simp) <;> with_reducible rfl
  (try simp only [Act.put, List.setIfInBounds_toArray, List.set_cons_zero, List.set_cons_succ])
  refine wpAnyH_take (i := 51) (oi := ?oi51) (v := ?v51) ?hi51 (by kernel_rfl) (by kernel_rfl) (by kernel_rfl) (fun _ _ _ h => h) (Or.inl ⟨?wt51, ?hy51⟩) (by assumption) ?rest51
  case hi51 => (simp only [List.getElem?_toArray, List.getElem?_cons_succ, List.getElem?_cons_zero]; rfl)
  case wt51 => rfl
  case hy51 => (intro w hSw; (try dsimp only at hSw); go_simp) <;> with_reducible rfl
  (try simp only [Act.put, List.setIfInBounds_toArray, List.set_cons_zero, List.set_cons_succ])
  refine wpAnyH_done (by kernel_rfl) ?_ _
  refine NoPanic.normal ?_
  go_wp2
  go_ret
  exact ⟨rfl, bthen HBW.out hb15⟩
end Go.Proofs.YtjogbgiknnfinaaDoor
