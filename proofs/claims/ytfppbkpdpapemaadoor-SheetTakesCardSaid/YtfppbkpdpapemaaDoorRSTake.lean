import Derived.Test.YtfppbkpdpapemaaDoorSTake
import Derived.Test.YtfppbkpdpapemaaDoorRSPut
/-! creelref20.Take. -/
set_option linter.unusedSimpArgs false
set_option linter.unusedVariables false
namespace Go.Proofs.YtfppbkpdpapemaaDoor
open Go.RowKit Go.Proofs.YtfppbkpdpapemaaDoorW.PrintWords Go.Proofs.YtfppbkpdpapemaaDoorW.PrintLast Go.Proofs.YtfppbkpdpapemaaDoorW.PrintMore

namespace Pl
theorem take_ref {b x : List UInt8} (h : unB b = some x) : (refS x = none → takeS b = none) ∧ ∀ s, refS x = some s → ((sheetOk s = true ∧ sealB (sheetB s) = b) → takeS b = some s) ∧ (¬ (sheetOk s = true ∧ sealB (sheetB s) = b) → takeS b = none) := by
  obtain ⟨r1, r2⟩ := ref_take b
  refine ⟨fun hn => ?_, fun s hs => ⟨fun hh => ?_, fun hh => ?_⟩⟩
  · rcases ht : takeS b with _ | s
    · rfl
    · obtain ⟨x', hx', hr, _⟩ := r1 s ht
      rw [h] at hx'
      injection hx' with hx'
      rw [hx', hr] at hn
      cases hn
  · rcases ht : takeS b with _ | s'
    · exact absurd hh (r2 ht x s h hs)
    · obtain ⟨x', hx', hr, _⟩ := r1 s' ht
      rw [h] at hx'
      injection hx' with hx'
      rw [← hx', hs] at hr
      injection hr with hr
      rw [hr]
  · rcases ht : takeS b with _ | s'
    · rfl
    · obtain ⟨x', hx', hr, ho, hb⟩ := r1 s' ht
      rw [h] at hx'
      injection hx' with hx'
      rw [← hx', hs] at hr
      injection hr with hr
      rw [hr] at hh
      exact absurd ⟨ho, hb⟩ hh
theorem rnumN_in (b : List UInt8) : -1 ≤ rnumN b ∧ rnumN b ≤ 4611686018427387904 := by
  unfold rnumN
  split
  · rename_i n r h
    have := (numB_some h).2
    omega
  · omega
theorem rfilesT_len : ∀ (ns : List (List UInt8)) (b : List UInt8) (fs : List FileT), rfilesT ns b = some fs → ∀ f ∈ fs, -1 ≤ f.2.1 ∧ f.2.1 ≤ 4611686018427387904
  | [], b, fs, h, f, hf => by
    simp only [rfilesT, Option.some.injEq] at h
    subst h
    cases hf
  | n :: ns, b, fs, h, f, hf => by
    simp only [rfilesT] at h
    split at h
    · cases h
    · obtain ⟨r, hr, he⟩ := Option.map_eq_some_iff.1 h
      subst he
      simp only [List.mem_cons] at hf
      rcases hf with rfl | hf
      · exact rnumN_in b
      · exact rfilesT_len ns _ r hr f hf
end Pl
theorem flags_rem (f : UInt8) : ((f.toNat : Int) % 2 == 1) = decide (f.toNat % 2 = 1) ∧ ((f.toNat : Int) / 2 % 2 == 1) = decide (f.toNat / 2 % 2 = 1) ∧ ((f.toNat : Int) / 4 % 2 == 1) = decide (f.toNat / 4 % 2 = 1) ∧ ((f.toNat : Int) / 8 % 2 == 1) = decide (f.toNat / 8 % 2 = 1) ∧ ((f.toNat : Int) / 16 % 2 == 1) = decide (f.toNat / 16 % 2 = 1) := by
  refine ⟨?_, ?_, ?_, ?_, ?_⟩ <;> (rw [Bool.eq_iff_iff, beq_iff_eq, decide_eq_true_iff]; omega)
/-- What is held while the reference takes a sheet: in block g the sheet, from B on its files; u reads as b. -/
structure StR (w W : World) (g B : Nat) (v : Value) (s : Pl.Sheet) (u : Value) (b : List UInt8) : Prop where
  kz : Blk W w.heap.size zeroC 38
  k7 : Blk W g (sheetC s v) 38
  t : Kd.V kb 0 W 0 (fun k => ¬ (k = g ∨ v.ownBlock = some k)) u b
  own : Own kFile 57 W B v s.files
  hb : Below w.heap.size w W
  lt : w.heap.size < g
  gB : g + 1 ≤ B
  sz : B ≤ W.heap.size
theorem StR.rd {w W : World} {g B : Nat} {v : Value} {s : Pl.Sheet} {u : Value} {b : List UInt8} (h : StR w W g B v s u b) : Rd kb W u b := Kd.V_mono h.t (fun _ _ => trivial)
theorem StR.num {w W W1 : World} {g B : Nat} {v : Value} {s : Pl.Sheet} {u u1 : Value} {b b1 : List UInt8} (h : StR w W g B v s u b) (ho : Own kb 5 W1 W.heap.size u1 b1) (hb : Below W.heap.size W W1) : StR w W1 g B v s u1 b1 :=
  ⟨h.kz.belowW hb, h.k7.belowW hb, Kd.V_mono ho.v (fun k hk hs => by
    have hk' : W.heap.size ≤ k := hk
    rcases hs with h1 | h1
    · have := h.k7.lt; omega
    · have := h.own.lt k h1; omega), h.own.below hb, bthen h.hb hb, h.lt, h.gB, Nat.le_trans h.sz hb.size⟩
theorem StR.bel {w W W1 : World} {g B : Nat} {v : Value} {s : Pl.Sheet} {u : Value} {b : List UInt8} (h : StR w W g B v s u b) (hb : Below W.heap.size W W1) : StR w W1 g B v s u b :=
  ⟨h.kz.belowW hb, h.k7.belowW hb, Kd.V_below h.t hb, h.own.below hb, bthen h.hb hb, h.lt, h.gB, Nat.le_trans h.sz hb.size⟩
theorem StR.put {w W : World} {g B : Nat} {v : Value} {s : Pl.Sheet} {u : Value} {b : List UInt8} (h : StR w W g B v s u b) (i : Nat) (x : Value) (s1 : Pl.Sheet) (he : (sheetC s v).setIfInBounds i x = sheetC s1 v) (hf : s1.files = s.files) : StR w (W.setCell ⟨g, i, none⟩ x) g B v s1 u b :=
  ⟨h.kz.far (by have := h.lt; show w.heap.size ≠ g; omega) x, h.k7.set i x he, Kd.V_far h.t (fun k hk he => hk (Or.inl he)) x, by rw [hf]; exact h.own.far (by have := h.gB; show g < B; omega) x, h.hb.setCell (p := ⟨g, i, none⟩) (Nat.le_of_lt h.lt) x, h.lt, h.gB, by rw [World.size_setCell]; exact h.sz⟩
theorem StR.drew {w W : World} {g B : Nat} {v : Value} {s : Pl.Sheet} {u : Value} {b : List UInt8} (h : StR w W g B v s u b) : StR w W.drew g B v s u b :=
  ⟨h.kz.drew, h.k7.drew, Kd.V_drew h.t, h.own.drew, h.hb.drew, h.lt, h.gB, h.sz⟩
/-- The files' row may be told to lie further up while it is empty. -/
theorem StR.up {w W : World} {g B : Nat} {s : Pl.Sheet} {u : Value} {b : List UInt8} (h : StR w W g B (.slice none 0 0) s u b) (hf : s.files = []) : StR w W g W.heap.size (.slice none 0 0) s u b :=
  ⟨h.kz, h.k7, h.t, by rw [hf]; exact Own.nil _ _ _ _, h.hb, h.lt, Nat.le_trans h.gB h.sz, Nat.le_refl _⟩
theorem StR.app {w W W1 : World} {g B : Nat} {v v1 : Value} {s : Pl.Sheet} {x : Pl.FileT} {u : Value} {b : List UInt8} (h : StR w W g B v s u b) (ho : Own kFile 57 W1 B v1 (s.files ++ [x])) (hg : W.grownBy W1 v.ownBlock) (hat : v1.ownBlock = v.ownBlock ∨ ∃ b, v1.ownBlock = some b ∧ W.heap.size ≤ b) : StR w (W1.setCell ⟨g, 11, none⟩ v1) g B v1 { s with files := s.files ++ [x] } u b := by
  have hlo : ∀ k, v.ownBlock = some k → B ≤ k := h.own.1
  have hlt := h.lt
  have hgB := h.gB
  have hsz := h.sz
  refine ⟨(h.kz.grown hg (fun he => by have := hlo _ he.symm; omega)).far (by show w.heap.size ≠ g; omega) _, (h.k7.grown hg (fun he => by have := hlo _ he.symm; omega)).set 11 v1 rfl, ?_, ho.far (by show g < B; omega) _, (h.hb.grown hg h.hb.size (fun k he => by have := hlo _ he; omega)).setCell (p := ⟨g, 11, none⟩) (Nat.le_of_lt hlt) _, hlt, hgB, by rw [World.size_setCell]; exact Nat.le_trans hsz hg.size⟩
  refine Kd.V_far ?_ (fun k hk he => hk (Or.inl he)) _
  refine Kd.V_mono (Kd.V_step (Kd.V_bound h.t) (fun k hk hl => hg.block k hl (fun he => hk.1 (Or.inr he.symm)))) (ok' := fun k => ¬ (k = g ∨ v1.ownBlock = some k)) (fun k hk hs => ?_)
  rcases hs with h1 | h1
  · exact hk.1 (Or.inl h1)
  · rcases hat with h2 | ⟨c, h2, h3⟩
    · exact hk.1 (Or.inr (by rw [← h2]; exact h1))
    · rw [h2] at h1
      injection h1 with h1
      have := hk.2
      omega

set_option maxRecDepth 100000 in
set_option maxHeartbeats 4000000 in
theorem rstake_any (v : Value) (b : List UInt8) (w : World) (hv : Rd kb w v b) (hl : b.length ≤ 1048576) : Calls Tryd.prog 19 #[v] w (TakeSh b w) := by
  have HV0 := Lib.hid hv
  obtain ⟨Av, cv, rfl, hcv, _⟩ := hv
  go_enter Tryd.func19, Tryd.ntmps19
  go_wp2_with fail
  refine calls_at fun W1 hW1 => ?_
  have hb1 : Below w.heap.size w W1 := by rw [← hW1]; exact below_alloc (Below.refl _ _) _
  have K1 : Blk W1 w.heap.size zeroC 38 := by rw [← hW1]; exact Blk.new _ _ _
  clear hW1
  refine (runseal_any _ b W1 (Rd.below HV0.out hb1) hl).mono ?_
  rintro e w2 ⟨v2, code, rfl, hcode, ho2, hb2⟩
  have KZ := Lib.hid (K1.belowW hb2)
  have HB2 := Lib.hid (bthen hb1 hb2)
  have hlt2 := (K1.belowW hb2).lt
  have hs12 := hb2.size
  have hlt1 := K1.lt
  obtain ⟨x, hx⟩ : ∃ x, (Pl.unB b).getD [] = x := ⟨_, rfl⟩
  rw [hx] at ho2
  obtain ⟨A2, c2, hv2⟩ := Kd.N_slice ho2
  subst hv2
  have HO2 := Lib.hid ho2
  clear K1 hb1 hb2 ho2
  rcases hun : Pl.unB b with _ | x'
  · have hc : (code != 0) = true := by
      simp only [bne_iff_ne, ne_eq]
      intro h
      have := hcode.1 h
      rw [hun] at this
      cases this
    have HN := Lib.hid (show Pl.takeS b = none by rw [Pl.takeS, hun]; rfl)
    clear hun hcode hx
    go_wp2_with ((with_reducible refine gate_ (.store 38 (.tmp 2) (.tmp 29)) rfl ?_); refine store_blk rfl rfl 38 (.tmp 2) (.tmp 29) rfl w.heap.size 0 zeroC zeroC 38 (.agg zeroC) zeroL rfl rfl rfl sizeSheet (by simp [Value.oneCell']) KZ.out (by simp) rfl ?_; intro W9 K9 P9)
    (try simp only [Exit.inBlock, Exit.then])
    refine bodyPost_ret (results_cell_tmp_row rfl _ _ w.heap.size 38 zeroC (0, 0) _ rfl K9.out Tryd.underlying38 rfl sizeSheet) rfl ?_
    exact takesh_no HN.out (P9.bel HB2.out (Nat.le_refl _))
  · obtain rfl : x' = x := by rw [← hx, hun]; rfl
    have hc : (code != 0) = false := by rw [hcode.2 (by rw [hun]; rfl)]; rfl
    have HUN := Lib.hid hun
    have HTR := Lib.hid (Pl.take_ref hun)
    have hxl : x'.length ≤ 1048576 := by have := (Pl.unB_some hun).2; omega
    clear hcode hx hun
    by_cases hx2 : x'.length < 2
    · have d2 : decide ((x'.length : Int) < 2) = true := by simp; omega
      have HN := Lib.hid (show Pl.takeS b = none from HTR.out.1 (by
        match x', hx2 with
        | [], _ => rfl
        | [_], _ => rfl
        | _ :: _ :: _, h => simp at h; omega))
      go_wp2_with ((with_reducible refine gate_ (.store 38 (.tmp 2) (.tmp 29)) rfl ?_); refine store_blk rfl rfl 38 (.tmp 2) (.tmp 29) rfl w.heap.size 0 zeroC zeroC 38 (.agg zeroC) zeroL rfl rfl rfl sizeSheet (by simp [Value.oneCell']) KZ.out (by simp) rfl ?_; intro W9 K9 P9)
      (try simp only [Exit.inBlock, Exit.then])
      refine bodyPost_ret (results_cell_tmp_row rfl _ _ w.heap.size 38 zeroC (0, 0) _ rfl K9.out Tryd.underlying38 rfl sizeSheet) rfl ?_
      exact takesh_no HN.out (P9.bel HB2.out (Nat.le_refl _))
    · have d2 : decide ((x'.length : Int) < 2) = false := by simp; omega
      obtain ⟨fm, f, b2, hxe⟩ : ∃ fm f b2, x' = fm :: f :: b2 := by
        match x', hx2 with
        | [], h => simp at h
        | [_], h => simp at h
        | fm :: f :: b2, _ => exact ⟨fm, f, b2, rfl⟩
      have HXE := Lib.hid hxe
      obtain ⟨_, hc2, hF2⟩ := Kd.V_at HO2.out.rd
      obtain ⟨ad, hA2, y0⟩ := kb_cell hF2 0 (by omega)
      obtain ⟨ad', hA2', y1⟩ := kb_cell hF2 1 (by omega)
      rw [hA2] at hA2'
      injection hA2' with hA2'
      subst hA2'
      subst hA2
      rw [hxe] at y0 y1
      have y0' : w2.cell? ad = some (.int .u8 (fm.toNat : Int)) := by simpa [Addr.add] using y0
      have y1' : w2.cell? ⟨ad.block, ad.off + 1, none⟩ = some (.int .u8 (f.toNat : Int)) := by simpa [Addr.add] using y1
      have hxn : (2 : Int) ≤ (x'.length : Int) := by omega
      have hb2l : b2.length ≤ 1048576 := by have := congrArg List.length hxe; simp at this; omega
      clear y0 y1 hxe hx2 hF2
      obtain ⟨A3, hcut, hV3⟩ := byte_from (Kd.V_at HO2.out.v).2.2 (Kd.V_at HO2.out.v).2.1 2 (by omega)
      have cut2 := hcut .i64 2 rfl
      have hdrop : x'.drop 2 = b2 := by rw [HXE.out]; rfl
      rw [hdrop] at hV3
      have HV3 := Lib.hid hV3
      obtain ⟨g, hg⟩ : ∃ g, w2.heap.size = g := ⟨_, rfl⟩
      obtain ⟨k1, hk1⟩ : ∃ k, ((f.toNat : Int) % 2 == 1) = k := ⟨_, rfl⟩
      obtain ⟨k2, hk2⟩ : ∃ k, ((f.toNat : Int) / 2 % 2 == 1) = k := ⟨_, rfl⟩
      obtain ⟨k3, hk3⟩ : ∃ k, ((f.toNat : Int) / 4 % 2 == 1) = k := ⟨_, rfl⟩
      obtain ⟨k4, hk4⟩ : ∃ k, ((f.toNat : Int) / 8 % 2 == 1) = k := ⟨_, rfl⟩
      obtain ⟨k5, hk5⟩ : ∃ k, ((f.toNat : Int) / 16 % 2 == 1) = k := ⟨_, rfl⟩
      clear hcut hdrop hV3
      go_wp2_with fail
      have HCF := Lib.hid (show ∀ n1 n2 n3 : Int, (⟨fm, k1, k2, k3, k4, k5, n1, n2, n3⟩ : Pl.Cfg) = Pl.cfgOf fm f n1 n2 n3 by
        intro n1 n2 n3
        obtain ⟨e1, e2, e3, e4, e5⟩ := flags_rem f
        rw [Pl.cfgOf, ← hk1, ← hk2, ← hk3, ← hk4, ← hk5, e1, e2, e3, e4, e5])
      clear hk1 hk2 hk3 hk4 hk5
      refine calls_at fun W3 hW3 => ?_
      have st0 : StR w W3 g (g + 1) (.slice none 0 0) ⟨⟨fm, k1, k2, k3, k4, k5, 0, 0, 0⟩, 0, 0, []⟩ (.slice A3 (x'.length - 2) (c2 - 2)) b2 := by
        rw [← hg]
        have hsz : w2.heap.size + 1 = W3.heap.size := by rw [← hW3]; simp
        refine ⟨?_, ?_, ?_, Own.nil _ _ _ _, ?_, hlt2, Nat.le_refl _, by omega⟩
        · rw [← hW3]; exact KZ.out.alloc _
        · rw [← hW3]; exact Blk.new _ _ _
        · refine Kd.V_below (Kd.V_mono (Kd.V_bound HV3.out) (fun k hk hs => ?_)) ?_
          · have h2 := hk.2
            rcases hs with h1 | h1
            · omega
            · cases h1
          · rw [← hW3]
            exact below_alloc (Below.refl _ _) _
        · rw [← hW3]
          exact HB2.out.alloc HB2.out.size _
      have HS0 := Lib.hid st0
      clear hW3 st0 cut2 y0' y1' hxn
      refine (rnum20_any _ b2 _ HS0.out.rd (by omega)).mono ?_
      rintro e X1 ⟨u1, rfl, ho, hb⟩
      obtain ⟨n1, hn⟩ : ∃ n, Pl.rnumN b2 = n := ⟨_, rfl⟩
      obtain ⟨r1, hr⟩ : ∃ r, Pl.rnumR b2 = r := ⟨_, rfl⟩
      have hl1 : r1.length ≤ 1048576 := by have := Pl.rnumR_len b2; rw [← hr]; omega
      have hi1 : -1 ≤ n1 ∧ n1 ≤ 4611686018427387904 := by rw [← hn]; exact Pl.rnumN_in b2
      rw [hr] at ho
      rw [hn]
      have HR1 := Lib.hid (⟨hn, hr⟩ : Pl.rnumN b2 = n1 ∧ Pl.rnumR b2 = r1)
      obtain ⟨U1, D1, hu⟩ := Kd.N_slice ho
      subst hu
      have hs := HS0.out.num ho hb
      have hc1 : X1.cell? ⟨g, 6, none⟩ = some (.int .i64 0) := hs.k7.cell.1 6
      have hf1 : X1.frozen? ⟨g, 6, none⟩ = false := hs.k7.cell.2 6
      have HS' := Lib.hid hs
      clear hs hn hr ho hb
      go_wp2_with fail
      refine calls_at fun V1 hV => ?_
      have HS1 := Lib.hid (show StR w V1 g (g + 1) (.slice none 0 0) ⟨⟨fm, k1, k2, k3, k4, k5, n1, 0, 0⟩, 0, 0, []⟩ (.slice U1 r1.length D1) r1 by rw [← hV]; exact HS'.out.put 6 (.int .i64 n1) _ rfl rfl)
      clear hV hc1 hf1 HS' HS0
      refine (rnum20_any _ r1 _ HS1.out.rd (by omega)).mono ?_
      rintro e X1 ⟨u1, rfl, ho, hb⟩
      obtain ⟨n2, hn⟩ : ∃ n, Pl.rnumN r1 = n := ⟨_, rfl⟩
      obtain ⟨r2, hr⟩ : ∃ r, Pl.rnumR r1 = r := ⟨_, rfl⟩
      have hl2 : r2.length ≤ 1048576 := by have := Pl.rnumR_len r1; rw [← hr]; omega
      have hi2 : -1 ≤ n2 ∧ n2 ≤ 4611686018427387904 := by rw [← hn]; exact Pl.rnumN_in r1
      rw [hr] at ho
      rw [hn]
      have HR2 := Lib.hid (⟨hn, hr⟩ : Pl.rnumN r1 = n2 ∧ Pl.rnumR r1 = r2)
      obtain ⟨U2, D2, hu⟩ := Kd.N_slice ho
      subst hu
      have hs := HS1.out.num ho hb
      have hc1 : X1.cell? ⟨g, 7, none⟩ = some (.int .i64 0) := hs.k7.cell.1 7
      have hf1 : X1.frozen? ⟨g, 7, none⟩ = false := hs.k7.cell.2 7
      have HS' := Lib.hid hs
      clear hs hn hr ho hb
      go_wp2_with fail
      refine calls_at fun V2 hV => ?_
      have HS2 := Lib.hid (show StR w V2 g (g + 1) (.slice none 0 0) ⟨⟨fm, k1, k2, k3, k4, k5, n1, n2, 0⟩, 0, 0, []⟩ (.slice U2 r2.length D2) r2 by rw [← hV]; exact HS'.out.put 7 (.int .i64 n2) _ rfl rfl)
      clear hV hc1 hf1 HS' HS1
      refine (rnum20_any _ r2 _ HS2.out.rd (by omega)).mono ?_
      rintro e X1 ⟨u1, rfl, ho, hb⟩
      obtain ⟨n3, hn⟩ : ∃ n, Pl.rnumN r2 = n := ⟨_, rfl⟩
      obtain ⟨r3, hr⟩ : ∃ r, Pl.rnumR r2 = r := ⟨_, rfl⟩
      have hl3 : r3.length ≤ 1048576 := by have := Pl.rnumR_len r2; rw [← hr]; omega
      have hi3 : -1 ≤ n3 ∧ n3 ≤ 4611686018427387904 := by rw [← hn]; exact Pl.rnumN_in r2
      rw [hr] at ho
      rw [hn]
      have HR3 := Lib.hid (⟨hn, hr⟩ : Pl.rnumN r2 = n3 ∧ Pl.rnumR r2 = r3)
      obtain ⟨U3, D3, hu⟩ := Kd.N_slice ho
      subst hu
      have hs := HS2.out.num ho hb
      have hc1 : X1.cell? ⟨g, 8, none⟩ = some (.int .i64 0) := hs.k7.cell.1 8
      have hf1 : X1.frozen? ⟨g, 8, none⟩ = false := hs.k7.cell.2 8
      have HS' := Lib.hid hs
      clear hs hn hr ho hb
      go_wp2_with fail
      refine calls_at fun V3 hV => ?_
      have HS3 := Lib.hid (show StR w V3 g (g + 1) (.slice none 0 0) ⟨⟨fm, k1, k2, k3, k4, k5, n1, n2, n3⟩, 0, 0, []⟩ (.slice U3 r3.length D3) r3 by rw [← hV]; exact HS'.out.put 8 (.int .i64 n3) _ rfl rfl)
      clear hV hc1 hf1 HS' HS2
      refine (rnum20_any _ r3 _ HS3.out.rd (by omega)).mono ?_
      rintro e X1 ⟨u1, rfl, ho, hb⟩
      obtain ⟨n4, hn⟩ : ∃ n, Pl.rnumN r3 = n := ⟨_, rfl⟩
      obtain ⟨r4, hr⟩ : ∃ r, Pl.rnumR r3 = r := ⟨_, rfl⟩
      have hl4 : r4.length ≤ 1048576 := by have := Pl.rnumR_len r3; rw [← hr]; omega
      have hi4 : -1 ≤ n4 ∧ n4 ≤ 4611686018427387904 := by rw [← hn]; exact Pl.rnumN_in r3
      rw [hr] at ho
      rw [hn]
      have HR4 := Lib.hid (⟨hn, hr⟩ : Pl.rnumN r3 = n4 ∧ Pl.rnumR r3 = r4)
      obtain ⟨U4, D4, hu⟩ := Kd.N_slice ho
      subst hu
      have hs := HS3.out.num ho hb
      have hc1 : X1.cell? ⟨g, 9, none⟩ = some (.int .i64 0) := hs.k7.cell.1 9
      have hf1 : X1.frozen? ⟨g, 9, none⟩ = false := hs.k7.cell.2 9
      have HS' := Lib.hid hs
      clear hs hn hr ho hb
      go_wp2_with fail
      refine calls_at fun V4 hV => ?_
      have HS4 := Lib.hid (show StR w V4 g (g + 1) (.slice none 0 0) ⟨⟨fm, k1, k2, k3, k4, k5, n1, n2, n3⟩, n4, 0, []⟩ (.slice U4 r4.length D4) r4 by rw [← hV]; exact HS'.out.put 9 (.int .i64 n4) _ rfl rfl)
      clear hV hc1 hf1 HS' HS3
      refine (rnum20_any _ r4 _ HS4.out.rd (by omega)).mono ?_
      rintro e X1 ⟨u1, rfl, ho, hb⟩
      obtain ⟨n5, hn⟩ : ∃ n, Pl.rnumN r4 = n := ⟨_, rfl⟩
      obtain ⟨r5, hr⟩ : ∃ r, Pl.rnumR r4 = r := ⟨_, rfl⟩
      have hl5 : r5.length ≤ 1048576 := by have := Pl.rnumR_len r4; rw [← hr]; omega
      have hi5 : -1 ≤ n5 ∧ n5 ≤ 4611686018427387904 := by rw [← hn]; exact Pl.rnumN_in r4
      rw [hr] at ho
      rw [hn]
      have HR5 := Lib.hid (⟨hn, hr⟩ : Pl.rnumN r4 = n5 ∧ Pl.rnumR r4 = r5)
      obtain ⟨U5, D5, hu⟩ := Kd.N_slice ho
      subst hu
      have hs := HS4.out.num ho hb
      have hc1 : X1.cell? ⟨g, 10, none⟩ = some (.int .i64 0) := hs.k7.cell.1 10
      have hf1 : X1.frozen? ⟨g, 10, none⟩ = false := hs.k7.cell.2 10
      have HS' := Lib.hid hs
      clear hs hn hr ho hb
      have HSH := Lib.hid (show Pl.refS x' = (Pl.rfilesT (Pl.names ⟨fm, k1, k2, k3, k4, k5, n1, n2, n3⟩) r5).map fun r => ⟨⟨fm, k1, k2, k3, k4, k5, n1, n2, n3⟩, n4, n5, r⟩ by
        rw [HXE.out]
        simp only [Pl.refS, Pl.rsheetT, HR1.out.1, HR1.out.2, HR2.out.1, HR2.out.2, HR3.out.1, HR3.out.2, HR4.out.1, HR4.out.2, HR5.out.1, HR5.out.2, ← HCF.out])
      have k0 := HS'.out.k7
      obtain ⟨q0, q1, q2, q3, q4, q5, q6, q7, q8⟩ : X1.cell? ⟨g, 0, none⟩ = some (.int .u8 (fm.toNat : Int)) ∧ X1.cell? ⟨g, 1, none⟩ = some (.bool k1) ∧ X1.cell? ⟨g, 2, none⟩ = some (.bool k2) ∧ X1.cell? ⟨g, 3, none⟩ = some (.bool k3) ∧ X1.cell? ⟨g, 4, none⟩ = some (.bool k4) ∧ X1.cell? ⟨g, 5, none⟩ = some (.bool k5) ∧ X1.cell? ⟨g, 6, none⟩ = some (.int .i64 n1) ∧ X1.cell? ⟨g, 7, none⟩ = some (.int .i64 n2) ∧ X1.cell? ⟨g, 8, none⟩ = some (.int .i64 n3) := ⟨k0.cell.1 0, k0.cell.1 1, k0.cell.1 2, k0.cell.1 3, k0.cell.1 4, k0.cell.1 5, k0.cell.1 6, k0.cell.1 7, k0.cell.1 8⟩
      clear k0
      go_wp2_with fail
      obtain ⟨C, hC⟩ : ∃ C : Pl.Cfg, C = ⟨fm, k1, k2, k3, k4, k5, n1, n2, n3⟩ := ⟨_, rfl⟩
      rw [show (Value.agg #[.int .u8 (fm.toNat : Int), .bool k1, .bool k2, .bool k3, .bool k4, .bool k5, .int .i64 n1, .int .i64 n2, .int .i64 n3]) = cfgV C by rw [hC]]
      refine calls_at fun V5 hV => ?_
      have HS5 := Lib.hid (show StR w V5 g (g + 1) (.slice none 0 0) ⟨C, n4, n5, []⟩ (.slice U5 r5.length D5) r5 by rw [← hV, hC]; exact HS'.out.put 10 (.int .i64 n5) _ rfl rfl)
      rw [← hC] at HSH
      have HCI := Lib.hid (show CfgIn C by rw [hC]; exact ⟨by show (-9223372036854775808 : Int) ≤ n1; omega, by show n1 ≤ (9223372036854775807 : Int); omega, by show (-9223372036854775808 : Int) ≤ n2; omega, by show n2 ≤ (9223372036854775807 : Int); omega, by show (-9223372036854775808 : Int) ≤ n3; omega, by show n3 ≤ (9223372036854775807 : Int); omega⟩)
      clear hV hc1 hf1 HS' HS4 q0 q1 q2 q3 q4 q5 q6 q7 q8
      refine (rnames20_any C V5).mono ?_
      rintro e w6 ⟨v6, rfl, ho6, hb6⟩
      obtain ⟨ns, hns⟩ : ∃ ns, Pl.names C = ns := ⟨_, rfl⟩
      rw [hns] at ho6
      rw [hns] at HSH
      have hnl : ns.length ≤ 40 := by rw [← hns]; exact names_le C
      have HNS := Lib.hid hns
      have HC := Lib.hid hC
      obtain ⟨A6, c6, hv6⟩ := Kd.N_slice ho6
      subst hv6
      have HV6 := Lib.hid (Kd.V_mono (Kd.V_bound ho6.v) (ok' := fun k => V5.heap.size ≤ k ∧ k < w6.heap.size) (fun k hk => hk))
      have HS6 := Lib.hid ((HS5.out.bel hb6).up rfl)
      have hsz5 := HS5.out.sz
      clear ho6 hb6 hns hC HS5 HR1 HR2 HR3 HR4 HR5 HCF
      go_wp2_with fail
      obtain ⟨R, hR⟩ : ∃ R, Pl.rfilesT ns r5 = R := ⟨_, rfl⟩
      have HR := Lib.hid hR
      rw [hR] at HSH
      clear hR
      go_loopw [8, 10, 11, 12, 13, 14] (fun rr i _ _ _ _ wr => ∃ (k : Nat) (fs : List Pl.FileT) (bk : List UInt8) (vr : Value) (Uk : Option Addr) (Dk : Nat), rr = .slice Uk bk.length Dk ∧ i = .int .i64 (k : Int) ∧ Aside0 (k ≤ ns.length ∧ fs.length = k) ∧ Aside0 ((Pl.rfilesT (ns.drop k) bk).map (fs ++ ·) = R) ∧ Aside0 (StR w wr g w6.heap.size vr ⟨C, n4, n5, fs⟩ (.slice Uk bk.length Dk) bk) ∧ Aside0 (Kd.V kStr 0 wr 0 (fun k => V5.heap.size ≤ k ∧ k < w6.heap.size) (.slice A6 ns.length c6) ns) ∧ Aside0 (bk.length ≤ 1048576)) (fun _ i _ _ _ _ _ => ns.length - (intOf i).toNat)
      case atStart => exact ⟨0, [], r5, .slice none 0 0, U5, D5, rfl, rfl, ⟨by simp⟩, ⟨by rw [← HR.out]; simp⟩, ⟨HS6.out⟩, ⟨HV6.out⟩, ⟨hl5⟩⟩
      case round =>
        obtain ⟨k, fs, bk, vr, Uk, Dk, rfl, rfl, hkk, HF, HS, HV, hbk⟩ := hrel
        by_cases hlt : k < ns.length
        · obtain ⟨m, hm⟩ : ∃ m, ns[k]? = some m := ⟨_, List.getElem?_eq_getElem hlt⟩
          obtain ⟨bd, hA, z0⟩ := kStr_cell (Kd.V_at HV.out).2.2 k m hm
          subst hA
          have hbl := World.block_lt_of_cell? _ _ z0
          have q1 : (0 : Int) ≤ (k : Int) := by omega
          have q2 : (k : Int) < (ns.length : Int) := by omega
          have HM := Lib.hid hm
          have HE := Lib.hid (show ns.drop k = m :: ns.drop (k + 1) by
            obtain ⟨hi, hx⟩ := List.getElem?_eq_some_iff.1 hm
            rw [List.drop_eq_getElem_cons hi, hx])
          have hfl : fs.length ≤ 40 := by have := hkk.out; omega
          have hdk : decide ((k : Int) < (ns.length : Int)) = true := by simp; omega
          clear hm
          go_wp2_with fail
          refine (rnum20_any _ bk _ HS.out.rd hbk.out).mono ?_
          rintro e X1 ⟨u1, rfl, ho, hb⟩
          obtain ⟨n, hn⟩ : ∃ n, Pl.rnumN bk = n := ⟨_, rfl⟩
          obtain ⟨bn, hr⟩ : ∃ r, Pl.rnumR bk = r := ⟨_, rfl⟩
          have hbn : bn.length ≤ 1048576 := by have := Pl.rnumR_len bk; have := hbk.out; rw [← hr]; omega
          rw [hr] at ho
          rw [hn]
          obtain ⟨U1, D1, hu⟩ := Kd.N_slice ho
          subst hu
          have HNR := Lib.hid (⟨hn, hr⟩ : Pl.rnumN bk = n ∧ Pl.rnumR bk = bn)
          have HS1 := Lib.hid (HS.out.num ho hb)
          have HV1 := Lib.hid (Kd.V_below HV.out hb)
          have z1 := (hb.cell (p := bd.add k) hbl).trans z0
          have hbl1 := Nat.lt_of_lt_of_le hbl hb.size
          clear hn hr ho hb z0 hbl
          go_wp2_with fail
          refine (runfix_any _ bn _ HS1.out.rd hbn).mono ?_
          rintro e X2 ⟨u2, rfl, ho, hb⟩
          by_cases h4 : bn.length < 4
          · rw [if_pos h4] at ho
            rw [if_pos h4, if_pos h4]
            have HN := Lib.hid (HTR.out.1 (by
              rw [HSH.out, ← HF.out, HE.out]
              simp only [Pl.rfilesT, HNR.out.2, h4, if_true, Option.map_none]))
            have KZ2 := Lib.hid (HS1.out.bel hb).kz
            have HB2' := Lib.hid (HS1.out.bel hb).hb
            clear ho hb z1
            go_wp2_with ((with_reducible refine gate_ (.store 38 (.tmp 2) (.tmp 114)) rfl ?_); refine store_blk rfl rfl 38 (.tmp 2) (.tmp 114) rfl w.heap.size 0 zeroC zeroC 38 (.agg zeroC) zeroL rfl rfl rfl sizeSheet (by simp [Value.oneCell']) KZ2.out (by simp) rfl ?_; intro W9 K9 P9)
            (try simp only [Exit.inBlock, Exit.then])
            refine bodyPost_ret (results_cell_tmp_row rfl _ _ w.heap.size 38 zeroC (0, 0) _ rfl K9.out Tryd.underlying38 rfl sizeSheet) rfl ?_
            exact takesh_no HN.out (P9.bel HB2'.out (Nat.le_refl _))
          · rw [if_neg h4] at ho
            rw [if_neg h4, if_neg h4]
            obtain ⟨bs, hbs⟩ : ∃ r, bn.drop 4 = r := ⟨_, rfl⟩
            rw [hbs] at ho
            have hlt4 := Pl.unfix4_lt bn
            obtain ⟨sm, hsm⟩ : ∃ n, Pl.unfixB (bn.take 4) = n := ⟨_, rfl⟩
            rw [hsm] at hlt4 ⊢
            have hw : IntKind.u32.wrap (sm : Int) = (sm : Int) := IntWalk.u32_in _ (by omega)
            obtain ⟨U2, D2, hu⟩ := Kd.N_slice ho
            subst hu
            have HFF := Lib.hid (show (Pl.rfilesT (ns.drop (k + 1)) bs).map ((fs ++ [(m, n, (sm : Int))]) ++ ·) = R by
              rw [← HF.out, HE.out]
              simp only [Pl.rfilesT, HNR.out.1, HNR.out.2, h4, if_false, hbs, hsm, Option.map_map]
              congr 1
              funext r
              simp)
            have HBS := Lib.hid (show bs.length ≤ 1048576 by rw [← hbs, List.length_drop]; omega)
            have hs2 := (HS1.out.num ho hb).drew
            have HV2 := Lib.hid (Kd.V_drew (Kd.V_below HV1.out hb))
            have HS2 := Lib.hid hs2
            have z2 : X2.drew.cell? (bd.add k) = some (strV m) := (hb.cell (p := bd.add k) hbl1).trans z1
            have hbl2 : (bd.add k).block < X2.drew.heap.size := Nat.lt_of_lt_of_le hbl1 hb.size
            have hC1 : X2.drew.cell? ⟨g, 11, none⟩ = some vr := hs2.k7.cell.1 11
            have hF1 : X2.drew.frozen? ⟨g, 11, none⟩ = false := hs2.k7.cell.2 11
            have hgX : g < X2.heap.size := hs2.k7.lt
            have z3 : X2.cell? (bd.add k) = some (strV m) := z2
            have hbl3 : (bd.add k).block < X2.heap.size := hbl2
            have hC2 : X2.cell? ⟨g, 11, none⟩ = some vr := hC1
            have hF2 : X2.frozen? ⟨g, 11, none⟩ = false := hF1
            have HSM := Lib.hid (⟨hbs, hsm, hlt4⟩ : bn.drop 4 = bs ∧ Pl.unfixB (bn.take 4) = sm ∧ sm < 4294967296)
            clear hs2 ho hb z1 hdk hbs hsm hlt4
            go_wp2_with fail
            apply wp_tail (S := fun A9 c9 W => StR w W g w6.heap.size (.slice A9 (fs.length + 1) c9) ⟨C, n4, n5, fs ++ [(m, n, (sm : Int))]⟩ (.slice U2 bs.length D2) bs ∧ Kd.V kStr 0 W 0 (fun k => V5.heap.size ≤ k ∧ k < w6.heap.size) (.slice (some bd) ns.length c6) ns)
            case' h1 =>
             go_region_law ((refine Kd.N_append_step kFile (w0 := X2.drew) (W := X2.drew) w6.heap.size rfl (.tmp 117) (.tmp 126) 36 57 (.agg #[strV [], .int .i64 0, .int .u32 0]) 32 rfl Tryd.underlying36 infoFile rfl (by decide) (by omega) vr fs (m, n, (sm : Int)) [strV m, .int .i64 n, .int .u32 (sm : Int)] (fun j => w6.heap.size ≤ j) (fun _ => False) rfl rfl (file_FK _ _ _) (fun _ h => h.elim) (fun _ hj => Nat.le_trans HS2.out.sz hj) HS2.out.own (Below.refl _ _) HS2.out.sz (by omega) ?_; intro v9 w9 ho9 hb9 hg9 hat9; obtain ⟨A9, c9, hv9⟩ := Kd.N_slice ho9; rw [List.length_append, List.length_singleton] at hv9; subst hv9; have hk9 := HS2.out.k7.grown hg9 (fun he => by have := HS2.out.own.1 _ he.symm; have := HS2.out.gB; omega); have hC9 : w9.cell? ⟨g, 11, none⟩ = some vr := hk9.cell.1 11; have hF9 : w9.frozen? ⟨g, 11, none⟩ = false := hk9.cell.2 11; have HS9 := Lib.hid (HS2.out.app ho9 hg9 hat9); have HV9 := Lib.hid (Kd.V_far (Kd.V_step HV2.out (fun j hj hl => hg9.block j hl (fun he => by have := HS2.out.own.1 _ he.symm; omega))) (p := ⟨g, 11, none⟩) (fun j hj he => by have : g = j := he.symm; omega) (.slice A9 (fs.length + 1) c9)); clear hk9 hg9 hat9 ho9 hb9))
             all_goals exact ⟨A9, c9, ⟨w9, rfl⟩, HS9.out, HV9.out⟩
            case h2 =>
              rintro A9 c9 X3 w9 ⟨hs9, hv9⟩
              have HS9 := Lib.hid hs9
              have HV9 := Lib.hid hv9
              clear hs9 hv9 z2 hbl2 hC1 hF1 hgX z3 hbl3 hC2 hF2
              go_wp2_with fail
              go_roundw
              case rel => exact ⟨k + 1, fs ++ [(m, n, (sm : Int))], bs, _, U2, D2, rfl, by go_num, ⟨by have := hkk.out; simp; omega⟩, ⟨HFF.out⟩, ⟨HS9.out⟩, ⟨HV9.out⟩, ⟨HBS.out⟩⟩
              case measure => simp [intOf]; omega
        · obtain rfl : k = ns.length := by have := hkk.out; omega
          have hdk : decide ((ns.length : Int) < (ns.length : Int)) = false := by simp
          have hRs : R = some fs := by
            rw [← HF.out, List.drop_length]
            simp [Pl.rfilesT]
          have HRF := HTR.out.2 _ (by rw [HSH.out, hRs]; rfl)
          have hrf : Pl.rfilesT ns r5 = some fs := by rw [HR.out, hRs]
          obtain ⟨s, hs⟩ : ∃ s : Pl.Sheet, (⟨C, n4, n5, fs⟩ : Pl.Sheet) = s := ⟨_, rfl⟩
          have HIN : ShIn s := by
            rw [← hs]
            refine ⟨HCI.out, by show (-9223372036854775808 : Int) ≤ n4; omega, by show n4 ≤ (9223372036854775807 : Int); omega, by show (-9223372036854775808 : Int) ≤ n5; omega, by show n5 ≤ (9223372036854775807 : Int); omega, fun f hf => ?_⟩
            have h1 := Pl.rfilesT_len ns r5 fs hrf f hf
            have h2 := (Pl.rfilesT_in ns r5 fs hrf).1 f hf
            exact ⟨by omega, by omega, h2.1, h2.2⟩
          have hK := HS.out.k7
          obtain ⟨q0, q1, q2, q3, q4, q5, q6, q7, q8, q9, q10, q11⟩ : wr.cell? ⟨g, 0, none⟩ = some (.int .u8 (C.fmt.toNat : Int)) ∧ wr.cell? ⟨g, 1, none⟩ = some (.bool C.num) ∧ wr.cell? ⟨g, 2, none⟩ = some (.bool C.skip) ∧ wr.cell? ⟨g, 3, none⟩ = some (.bool C.both) ∧ wr.cell? ⟨g, 4, none⟩ = some (.bool C.loops) ∧ wr.cell? ⟨g, 5, none⟩ = some (.bool C.back) ∧ wr.cell? ⟨g, 6, none⟩ = some (.int .i64 C.bud) ∧ wr.cell? ⟨g, 7, none⟩ = some (.int .i64 C.fan) ∧ wr.cell? ⟨g, 8, none⟩ = some (.int .i64 C.sha) ∧ wr.cell? ⟨g, 9, none⟩ = some (.int .i64 n4) ∧ wr.cell? ⟨g, 10, none⟩ = some (.int .i64 n5) ∧ wr.cell? ⟨g, 11, none⟩ = some vr := ⟨hK.cell.1 0, hK.cell.1 1, hK.cell.1 2, hK.cell.1 3, hK.cell.1 4, hK.cell.1 5, hK.cell.1 6, hK.cell.1 7, hK.cell.1 8, hK.cell.1 9, hK.cell.1 10, hK.cell.1 11⟩
          have HRd := Lib.hid (show Rd kFile wr vr s.files by rw [← hs]; exact HS.out.own.rd)
          have HVV := Lib.hid (show sheetV ⟨C, n4, n5, fs⟩ vr = sheetV s vr by rw [hs])
          have HHI := Lib.hid HIN
          have HLL := Lib.hid (show s.files.length ≤ 40 by rw [← hs]; show fs.length ≤ 40; have := hkk.out; omega)
          have HTT := Lib.hid HRF
          have HSS := Lib.hid hs
          clear hRs hrf HRF HIN hs hK HF HSH HV HR HTR
          go_wp2_with fail
          rw [show (Value.agg #[.int .u8 (C.fmt.toNat : Int), .bool C.num, .bool C.skip, .bool C.both, .bool C.loops, .bool C.back, .int .i64 C.bud, .int .i64 C.fan, .int .i64 C.sha, .int .i64 n4, .int .i64 n5, vr]) = sheetV s vr from HVV.out]
          refine (rsput_any s vr wr HHI.out HRd.out HLL.out).mono ?_
          rintro e w9 ⟨v9, rfl, ho9, hb9⟩
          have hz := HS.out.kz.belowW hb9
          have hS9 := HS.out.bel hb9
          have HZ9 := Lib.hid hS9.kz
          have HB9 := Lib.hid hS9.hb
          have HS9 := Lib.hid hS9
          clear q0 q1 q2 q3 q4 q5 q6 q7 q8 q9 q10 q11 hz hS9
          rcases hok : Pl.sheetOk s with _ | _
          · rw [hok] at ho9
            have HN := Lib.hid (HTT.out.2 (by rw [HSS.out, hok]; rintro ⟨h, _⟩; cases h))
            clear hok ho9 hb9
            go_wp2_with ((with_reducible refine gate_ (.store 38 (.tmp 2) (.tmp 143)) rfl ?_); refine store_blk rfl rfl 38 (.tmp 2) (.tmp 143) rfl w.heap.size 0 zeroC zeroC 38 (.agg zeroC) zeroL rfl rfl rfl sizeSheet (by simp [Value.oneCell']) HZ9.out (by simp) rfl ?_; intro W9 K9 P9)
            (try simp only [Exit.inBlock, Exit.then])
            refine bodyPost_ret (results_cell_tmp_row rfl _ _ w.heap.size 38 zeroC (0, 0) _ rfl K9.out Tryd.underlying38 rfl sizeSheet) rfl ?_
            exact takesh_no HN.out (P9.bel HB9.out (Nat.le_refl _))
          · rw [hok] at ho9
            simp only [if_true] at ho9
            obtain ⟨P, hP⟩ : ∃ P, Pl.sealB (Pl.sheetB s) = P := ⟨_, rfl⟩
            rw [hP] at ho9
            obtain ⟨A9, c9, hv9⟩ := Kd.N_slice ho9
            subst hv9
            have hy1 := byte_string ho9.rd
            have hy2 := byte_string (Rd.below HV0.out HS9.out.hb)
            by_cases hpb : P = b
            · subst hpb
              have HN := Lib.hid (HTT.out.1 (by rw [HSS.out]; exact ⟨hok, hP⟩))
              have hK := HS9.out.k7
              obtain ⟨q0, q1, q2, q3, q4, q5, q6, q7, q8, q9, q10, q11⟩ : w9.cell? ⟨g, 0, none⟩ = some (.int .u8 (C.fmt.toNat : Int)) ∧ w9.cell? ⟨g, 1, none⟩ = some (.bool C.num) ∧ w9.cell? ⟨g, 2, none⟩ = some (.bool C.skip) ∧ w9.cell? ⟨g, 3, none⟩ = some (.bool C.both) ∧ w9.cell? ⟨g, 4, none⟩ = some (.bool C.loops) ∧ w9.cell? ⟨g, 5, none⟩ = some (.bool C.back) ∧ w9.cell? ⟨g, 6, none⟩ = some (.int .i64 C.bud) ∧ w9.cell? ⟨g, 7, none⟩ = some (.int .i64 C.fan) ∧ w9.cell? ⟨g, 8, none⟩ = some (.int .i64 C.sha) ∧ w9.cell? ⟨g, 9, none⟩ = some (.int .i64 n4) ∧ w9.cell? ⟨g, 10, none⟩ = some (.int .i64 n5) ∧ w9.cell? ⟨g, 11, none⟩ = some vr := ⟨hK.cell.1 0, hK.cell.1 1, hK.cell.1 2, hK.cell.1 3, hK.cell.1 4, hK.cell.1 5, hK.cell.1 6, hK.cell.1 7, hK.cell.1 8, hK.cell.1 9, hK.cell.1 10, hK.cell.1 11⟩
              obtain ⟨Ar, cr, hvr⟩ := Kd.N_slice HS9.out.own
              subst hvr
              clear hK hP ho9 hb9
              go_wp2_with ((with_reducible refine gate_ (.store 38 (.tmp 2) (.tmp 144)) rfl ?_); refine store_blk rfl rfl 38 (.tmp 2) (.tmp 144) rfl w.heap.size 0 zeroC (sheetC ⟨C, n4, n5, fs⟩ (.slice Ar fs.length cr)) 38 (sheetV ⟨C, n4, n5, fs⟩ (.slice Ar fs.length cr)) (sheetC ⟨C, n4, n5, fs⟩ (.slice Ar fs.length cr)).toList rfl rfl rfl sizeSheet (by simp [Value.oneCell']) HZ9.out (by simp) rfl ?_; intro W9 K9 P9)
              (try simp only [Exit.inBlock, Exit.then])
              refine bodyPost_ret (results_cell_tmp_row rfl _ _ w.heap.size 38 _ (0, 0) _ rfl K9.out Tryd.underlying38 rfl sizeSheet) rfl ?_
              exact ⟨.slice Ar fs.length cr, by rw [HN.out]; rfl, by rw [HN.out]; exact (P9.own HS9.out.own (by have := HS9.out.lt; have := HS9.out.gB; omega)).rd, P9.bel HB9.out (Nat.le_refl _)⟩
            · have HN := Lib.hid (HTT.out.2 (by rw [HSS.out, hP]; exact fun h => hpb h.2))
              clear hP ho9 hb9
              have hne : (!(P == b)) = true := by simpa using hpb
              go_wp2_with ((with_reducible refine gate_ (.store 38 (.tmp 2) (.tmp 143)) rfl ?_); refine store_blk rfl rfl 38 (.tmp 2) (.tmp 143) rfl w.heap.size 0 zeroC zeroC 38 (.agg zeroC) zeroL rfl rfl rfl sizeSheet (by simp [Value.oneCell']) HZ9.out (by simp) rfl ?_; intro W9 K9 P9)
              (try simp only [Exit.inBlock, Exit.then])
              refine bodyPost_ret (results_cell_tmp_row rfl _ _ w.heap.size 38 zeroC (0, 0) _ rfl K9.out Tryd.underlying38 rfl sizeSheet) rfl ?_
              exact takesh_no HN.out (P9.bel HB9.out (Nat.le_refl _))
end Go.Proofs.YtfppbkpdpapemaaDoor
