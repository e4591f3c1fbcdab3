import Derived.Test.YtchbfeejpdfmhaaFeedParts
/-! The law FeedParts, walked. -/
set_option linter.unusedSimpArgs false
set_option linter.unusedVariables false
namespace Go.Proofs.Ytchbfeejpdfmhaa
open Go.RowKit Go.Shelf Go.Proofs.YtchbfeejpdfmhaaW.PrintWords Go.Proofs.YtchbfeejpdfmhaaW.PrintLast Go.Proofs.YtchbfeejpdfmhaaW.PrintMore
attribute [local go_sem] max2_int min2_int max_two min_two

set_option maxRecDepth 100000 in
set_option maxHeartbeats 4000000 in
theorem feedParts_walk (va : Value) (a : List UInt8) (vb : Value) (b : List UInt8) (rows num : Bool) (w : World) (hva : Rd kb w va a) (_ : a.length ≤ 140737488351232) (hvb : Rd kb w vb b) (_ : b.length ≤ 140737488351232) :
    Calls Try.prog 6 #[va, vb, .bool rows, .bool num] w fun e w' => e = .returned (.bool true) ∧ Below w.heap.size w w' := by
  obtain ⟨A, c, rfl, hc, hF⟩ := hva
  obtain ⟨B, d, rfl, hd, hG⟩ := hvb
  obtain ⟨m, hm⟩ : ∃ m, min a.length 500 = m := ⟨_, rfl⟩
  obtain ⟨n, hn⟩ : ∃ n, min b.length 500 = n := ⟨_, rfl⟩
  obtain ⟨hcut, hV⟩ := byte_to hF hc m (by omega)
  obtain ⟨hcut2, hV2⟩ := byte_to hG hd n (by omega)
  replace hcut := hcut .i64 (m : Int) rfl
  replace hcut2 := hcut2 .i64 (n : Int) rfl
  have hif : (if (500 : Int) < (a.length : Int) then (500 : Int) else (a.length : Int)) = (m : Int) := by split <;> omega
  have hif2 : (if (500 : Int) < (b.length : Int) then (500 : Int) else (b.length : Int)) = (n : Int) := by split <;> omega
  have hm2 : m ≤ 500 := by omega
  have hn2 : n ≤ 500 := by omega
  have hmx := Kd.F_max hF
  have hnx := Kd.F_max hG
  obtain ⟨x, hx⟩ : ∃ x, a.take m = x := ⟨_, rfl⟩
  obtain ⟨y, hy⟩ : ∃ y, b.take n = y := ⟨_, rfl⟩
  have hxl : x.length = m := by rw [← hx]; simp; omega
  have hyl : y.length = n := by rw [← hy]; simp; omega
  rw [hx] at hV
  rw [hy] at hV2
  have HV := Lib.hid (Kd.V_mono hV fun _ _ => trivial : Rd kb w _ _)
  have HV2 := Lib.hid (Kd.V_mono hV2 fun _ _ => trivial : Rd kb w _ _)
  have HXL := Lib.hid hxl
  have HYL := Lib.hid hyl
  clear hV hV2 hF hG hx hy hm hn hxl hyl
  go_enter Try.func6, Try.ntmps6
  go_upto_region 2 with (go_at_call 18; refine (shown11_any _).mono ?_; rintro e w1 ⟨rfl, hb1⟩; have HB1 := Lib.hid hb1; clear hb1)
  have hR1 := Rd.below HV.out HB1.out
  have hR2 := Rd.below HV2.out HB1.out
  have HR1 := Lib.hid hR1
  have HR2 := Lib.hid hR2
  have hxl5 : x.length ≤ 500 := by have := HXL.out; omega
  clear hR1 hR2 HV HV2
  refine Code.wp_mono (Q := fun e ac W => ∃ (A6 : Option Addr) (c6 : Nat) (t20 t21 t22 t23 t24 t25 t26 t27 t28 t29 t30 t31 t32 t33 : Value), e = .normal ∧ ac = { tmps := #[.slice A a.length c, .slice B b.length d, .bool rows, .bool num, undef, undef, undef, undef, .bool false, .bool true, .slice A6 (x.length + 1) c6, .slice B n d, undef, undef, undef, undef, undef, undef, undef, .bool true, t20, t21, t22, t23, t24, t25, t26, t27, t28, t29, t30, t31, t32, t33, undef, undef, undef, undef, undef, undef, undef, undef, undef, undef, undef, undef, undef, undef, undef, undef, undef, undef, undef, undef, undef, undef, undef, undef, undef, undef, undef, undef, undef, undef, undef, undef, undef, undef, undef, undef, undef, undef, undef, undef, undef, undef, undef, undef], defers := [] } ∧ Own kb 5 W w1.heap.size (.slice A6 (x.length + 1) c6) (x ++ [10]) ∧ Below w1.heap.size w1 W) ?imp ?reg
  case reg =>
    go_region_held3 (fun W => True) (first | trivial)
      (first | (refine appN_step (w0 := w1) w1.heap.size rfl (.tmp 20) (.tmp 25) rfl _ _ [] x rfl rfl (lit00b w1 _ _ rfl (Nat.le_refl _)).drew (Rd.below HR1.out (below_alloc (Below.refl _ _) _).drew) (below_alloc (Below.refl _ _) _).drew (below_alloc (Below.refl _ _) _).drew.size (by simp; omega) ?_; intro v5 w5 ho5 hb5 hg5 hat5; rw [List.nil_append] at ho5; have HO5 := Lib.hid ho5; have HB5 := Lib.hid hb5) | (refine appN_step (w0 := w1) w1.heap.size rfl (.tmp 20) (.tmp 25) rfl _ _ [] x rfl rfl ((lit00b w1 _ _ rfl (Nat.le_refl _)).alloc (.cells #[.int .u8 10] 5)).drew (Rd.below HR1.out (below_alloc (below_alloc (Below.refl _ _) _) _).drew) (below_alloc (below_alloc (Below.refl _ _) _) _).drew (below_alloc (below_alloc (Below.refl _ _) _) _).drew.size (by simp; omega) ?_; intro v5 w5 ho5 hb5 hg5 hat5; rw [List.nil_append] at ho5; have HO5 := Lib.hid ho5; have HB5 := Lib.hid hb5; have h10 := Lib.hid (lit10g (g := w1.heap.size + 1) (W := ((w1.alloc (.cells #[] 5)).alloc (.cells #[.int .u8 10] 5)).drew) (by have := heap_alloc_new (w1.alloc (.cells #[] 5)) (.cells #[.int .u8 10] 5); rw [World.size_alloc] at this; exact this) hg5 (by intro he; simp [Value.ownBlock, Act.eval] at he))) | (refine appN_step (w0 := w1) w1.heap.size rfl (.tmp 20) (.tmp 25) rfl _ _ [] x rfl rfl (lit00b (w1.alloc (.cells #[.int .u8 10] 5)) _ _ (by simp) (by simp)).drew (Rd.below HR1.out (below_alloc (below_alloc (Below.refl _ _) _) _).drew) (below_alloc (below_alloc (Below.refl _ _) _) _).drew (below_alloc (below_alloc (Below.refl _ _) _) _).drew.size (by simp; omega) ?_; intro v5 w5 ho5 hb5 hg5 hat5; rw [List.nil_append] at ho5; have HO5 := Lib.hid ho5; have HB5 := Lib.hid hb5; have h10 := Lib.hid (lit10g (g := w1.heap.size) (W := ((w1.alloc (.cells #[.int .u8 10] 5)).alloc (.cells #[] 5)).drew) ((Below.heap_alloc _ _ _ (by simp)).trans (heap_alloc_new w1 (.cells #[.int .u8 10] 5))) hg5 (by intro he; simp [Value.ownBlock, Act.eval] at he))) | (refine appN_step (w0 := w1) w1.heap.size rfl (.tmp 26) (.tmp 27) rfl _ _ x [10] rfl rfl HO5.out h10.out HB5.out HB5.out.size (by simp; omega) ?_; intro v6 w6 ho6 hb6 hg6 hat6; obtain ⟨A6, c6, hv6⟩ := Kd.N_slice ho6; rw [List.length_append, List.length_singleton] at hv6; subst hv6; have HO6 := Lib.hid ho6; have HB6 := Lib.hid hb6) | (refine appN_step (w0 := w1) w1.heap.size rfl (.tmp 26) (.tmp 27) rfl _ _ x [10] rfl rfl HO5.out.drew h10.out.drew HB5.out.drew HB5.out.drew.size (by simp; omega) ?_; intro v6 w6 ho6 hb6 hg6 hat6; obtain ⟨A6, c6, hv6⟩ := Kd.N_slice ho6; rw [List.length_append, List.length_singleton] at hv6; subst hv6; have HO6 := Lib.hid ho6; have HB6 := Lib.hid hb6) | (refine appN_step (w0 := w1) w1.heap.size rfl (.tmp 26) (.tmp 27) rfl _ _ x [10] rfl rfl (HO5.out.alloc _) (lit10b w5 _ rfl) (below_alloc HB5.out _) (below_alloc HB5.out _).size (by simp; omega) ?_; intro v6 w6 ho6 hb6 hg6 hat6; obtain ⟨A6, c6, hv6⟩ := Kd.N_slice ho6; rw [List.length_append, List.length_singleton] at hv6; subst hv6; have HO6 := Lib.hid ho6; have HB6 := Lib.hid hb6) | (refine appN_step (w0 := w1) w1.heap.size rfl (.tmp 26) (.tmp 27) rfl _ _ x [10] rfl rfl (HO5.out.alloc _).drew (lit10b w5 _ rfl).drew (HB5.out.alloc HB5.out.size _).drew (HB5.out.alloc HB5.out.size _).drew.size (by simp; omega) ?_; intro v6 w6 ho6 hb6 hg6 hat6; obtain ⟨A6, c6, hv6⟩ := Kd.N_slice ho6; rw [List.length_append, List.length_singleton] at hv6; subst hv6; have HO6 := Lib.hid ho6; have HB6 := Lib.hid hb6) | (refine appN_step (w0 := w1) w1.heap.size rfl (.tmp 26) (.tmp 27) rfl _ _ x [10] rfl rfl (HO5.out.alloc _) (lit10b w5 _ rfl) (HB5.out.alloc HB5.out.size _) (HB5.out.alloc HB5.out.size _).size (by simp; omega) ?_; intro v6 w6 ho6 hb6 hg6 hat6; obtain ⟨A6, c6, hv6⟩ := Kd.N_slice ho6; rw [List.length_append, List.length_singleton] at hv6; subst hv6; have HO6 := Lib.hid ho6; have HB6 := Lib.hid hb6))
    all_goals first | exact ⟨_, _, _, _, _, _, _, _, _, _, _, _, _, _, _, _, rfl, rfl, HO6.out, HB6.out⟩ | exact ⟨_, _, _, _, _, _, _, _, _, _, _, _, _, _, _, _, rfl, rfl, HO6.out.drew, HB6.out.drew⟩
  case imp =>
    rintro e ac W2 ⟨A6, c6, t20, t21, t22, t23, t24, t25, t26, t27, t28, t29, t30, t31, t32, t33, rfl, rfl, ho6, hb6⟩
    have HX := Lib.hid ho6.rd
    have HY2 := Lib.hid (Rd.below HR2.out hb6)
    have HB2 := Lib.hid (bthen HB1.out hb6)
    have hyl5 : y.length ≤ 500 := by have := HYL.out; omega
    clear ho6 hb6 HR1 HR2 hcut hcut2 hif hif2
    obtain ⟨xx, hxx⟩ : ∃ z, x ++ [10] = z := ⟨_, rfl⟩
    have hxxl : xx.length = x.length + 1 := by rw [← hxx]; simp
    have HLT := Lib.hid (by intro cc h1 h2; rw [← hxx]; exact Pl.parts_law x y cc h1 h2 : ∀ cc : Pl.Cfg, cc.fmt ≠ 3 → cc.skip = true → Pl.items (xx ++ y) cc = Pl.items xx cc ++ Pl.items y cc)
    rw [hxx, ← hxxl] at HX
    have hxx5 : xx.length ≤ 501 := by omega
    rw [← hxxl]
    clear hxx hxxl
    go_wp2_with fail
    refine (plain11_any true W2).mono ?_
    rintro e W3 ⟨rfl, hb3⟩
    have HX3 := Lib.hid (Rd.below HX.out hb3)
    have HY3 := Lib.hid (Rd.below HY2.out hb3)
    have HB3 := Lib.hid (bthen HB2.out hb3)
    clear hb3 HX HY2 HB2
    cases rows
    · go_wp2_with fail
      refine calls_at fun W4 hW4 => ?_
      obtain ⟨cc, hcc⟩ : ∃ cc : Pl.Cfg, { Pl.plainC true with num := num } = cc := ⟨_, rfl⟩
      have hb4 : Below W3.heap.size W3 W4 := by rw [← hW4]; exact below_alloc (Below.refl _ _) _
      have hf3 : cc.fmt ≠ 3 := by rw [← hcc]; show (1 : UInt8) ≠ 3; decide
      have hsk : cc.skip = true := by rw [← hcc]; rfl
      have HLAW := Lib.hid (HLT.out cc hf3 hsk)
      have hcall := list11_any (.slice A6 xx.length c6) xx cc W4 (Rd.below HX3.out hb4) (by omega)
      have HX4 := Lib.hid (Rd.below HX3.out hb4)
      have HY4 := Lib.hid (Rd.below HY3.out hb4)
      have HB4 := Lib.hid (bthen HB3.out hb4)
      have hsw4 : w.heap.size ≤ W4.heap.size := HB4.out.size
      obtain ⟨bx, hbx⟩ : ∃ bx, W3.heap.size = bx := ⟨_, rfl⟩
      have K4 : Blk W4 bx (cfgC cc) 40 := by rw [← hW4, ← hcc, ← hbx]; exact Blk.new W3 _ _
      rw [hbx]
      rw [← hcc] at hcall
      refine hcall.mono ?_
      rw [hcc]
      clear hcall hcc hW4 hb4 hf3 hsk hbx HLT HX3 HY3 HB3
      rintro e w5 ⟨v5, rfl, ho5, hb5⟩
      obtain ⟨A5, c5, hv5⟩ := Kd.R_slice ho5
      subst hv5
      have K5 := K4.belowW hb5
      have HX5 := Lib.hid (Rd.below HX4.out hb5)
      have HY5 := Lib.hid (Rd.below HY4.out hb5)
      have HB5 := Lib.hid (bthen HB4.out hb5)
      have HL5 := Lib.hid ho5
      have hs45 := hb5.size
      obtain ⟨q0, q1, q2, q3, q4, q5, q6, q7, q8⟩ := cfgAt_of K5
      clear hb5 ho5 K4 HX4 HY4 HB4
      go_wp2_with fail
      refine (list11_any (.slice B n d) y cc w5 HY5.out (by omega)).mono ?_
      rintro e w6 ⟨v6, rfl, ho6, hb6⟩
      obtain ⟨Am, cm, hv6⟩ := Kd.R_slice ho6
      subst hv6
      have K6 := K5.belowW hb6
      have KH6 := Lib.hid (cfgAt_of K6)
      have hlt6 : bx < w6.heap.size := K6.lt
      have HX6 := Lib.hid (Rd.below HX5.out hb6)
      have HY6 := Lib.hid (Rd.below HY5.out hb6)
      have HB6 := Lib.hid (bthen HB5.out hb6)
      have HL6 := Lib.hid (Kd.R_below HL5.out hb6)
      have HM6 := Lib.hid ho6
      have hs56 := hb6.size
      have hlow : ∀ k, (Value.slice A5 (Pl.items xx cc).length c5).ownBlock = some k → k < w5.heap.size := fun k hk => Kd.N_lt (Kd.R_N HL5.out) k hk
      clear q0 q1 q2 q3 q4 q5 q6 q7 q8 hb6 ho6 K5 HX5 HY5 HB5 HL5
      go_wp2_with fail
      go_region_held3 (fun W => W.cell? ⟨bx, 0, none⟩ = some (.int .u8 (cc.fmt.toNat : Int)) ∧ W.cell? ⟨bx, 1, none⟩ = some (.bool cc.num) ∧ W.cell? ⟨bx, 2, none⟩ = some (.bool cc.skip) ∧ W.cell? ⟨bx, 3, none⟩ = some (.bool cc.both) ∧ W.cell? ⟨bx, 4, none⟩ = some (.bool cc.loops) ∧ W.cell? ⟨bx, 5, none⟩ = some (.bool cc.back) ∧ W.cell? ⟨bx, 6, none⟩ = some (.int .i64 cc.bud) ∧ W.cell? ⟨bx, 7, none⟩ = some (.int .i64 cc.fan) ∧ W.cell? ⟨bx, 8, none⟩ = some (.int .i64 cc.sha)) (first | exact KH6.out | exact cfgAt_below KH6.out (below_alloc (Below.refl _ _) _).drew hlt6 | exact cfgAt_below KH6.out HB7.out hlt6 | exact cfgAt_below KH6.out HB8.out hlt6 | exact cfgAt_below KH6.out hbL hlt6)
        (first | (refine appN_step (w0 := w6) w6.heap.size rfl (.tmp 52) (.tmp 53) rfl _ _ [] xx rfl rfl (lit00b w6 _ _ rfl (Nat.le_refl _)).drew (Rd.below HX6.out (below_alloc (Below.refl _ _) _).drew) (below_alloc (Below.refl _ _) _).drew (below_alloc (Below.refl _ _) _).drew.size (by simp; omega) ?_; intro v7 w7 ho7 hb7 hg7 hat7; rw [List.nil_append] at ho7; have HO7 := Lib.hid ho7; have HB7 := Lib.hid hb7) | (refine appN_step (w0 := w6) w6.heap.size rfl (.tmp 54) (.tmp 55) rfl _ _ xx y rfl rfl HO7.out (Rd.below HY6.out HB7.out) HB7.out HB7.out.size (by omega) ?_; intro v8 w8 ho8 hb8 hg8 hat8; obtain ⟨A8, c8, hv8⟩ := Kd.N_slice ho8; rw [List.length_append] at hv8; subst hv8; have HO8 := Lib.hid ho8; have HB8 := Lib.hid hb8) | (go_at_call 20; refine (list11_any _ (xx ++ y) cc _ HO8.out.rd (by simp; omega)).mono ?_; rintro e w9 ⟨v9, rfl, ho9, hb9⟩; obtain ⟨A9, c9, hv9⟩ := Kd.R_slice ho9; subst hv9; have hbL := bthen HB8.out hb9))
      all_goals
        have HA9 := Lib.hid ho9
        have HL9 := Lib.hid (Kd.R_below HL6.out hbL)
        have HM9 := Lib.hid (Kd.R_below HM6.out hbL)
        have HB9 := Lib.hid (bthen HB6.out hbL)
        have hs89 := hb9.size
        have hs68 := HB8.out.size
        clear ho9 hbL hb9 hb8 hb7 ho7 ho8 hat7 hat8 hg7 hg8 HO7 HO8 HL6 HM6 HB6
        have hx1 := Pl.items_len xx cc
        have hy1 := Pl.items_len y cc
        have hlw : ∀ k, w8.heap.size ≤ k → some k ≠ (Value.slice A5 (Pl.items xx cc).length c5).ownBlock := fun k hk he => by have := hlow k he.symm; omega
        go_wp2_with ((with_reducible refine gate_builtin (b := .append) (xs := #[.tmp 73, .tmp 74]) rfl ?_); at_builtin; refine wpList_step fun K hK => ?_; refine Kd.N_append_rows_step kItem (w0 := w9) W4.heap.size ?hw (.tmp 73) (.tmp 74) 29 36 (.agg #[.bool false, .slice none 0 0, .slice none 0 0, .int .i64 0, .int .i64 0]) 72 rfl Try.underlying29 infoItem5 rfl (by decide) (by omega) _ (Pl.items xx cc) (Pl.items y cc) Am (Pl.items y cc).length cm (fun k => W4.heap.size ≤ k) (fun k => w5.heap.size ≤ k) rfl rfl (Kd.R_N HL9.out) (Kd.V_at (Kd.R_V (base' := 0) HM9.out)).2.2 ?hokp ?hfr (Below.refl _ _) ?hba ?hle ?_; (case hw => rfl); (case hokp => exact fun k hk => ⟨by omega, fun he => by have := hlow k he.symm; omega⟩); (case hfr => exact fun k hk => by omega); (case hba => omega); (case hle => omega); intro v10 w10 ho10 hb10 hg10 hat10; refine hK _ _ ?_; obtain ⟨A10, c10, hv10⟩ := Kd.N_slice ho10; rw [List.length_append] at hv10; subst hv10)
        have HS : Rd kItem w10 (.slice A9 (Pl.items (xx ++ y) cc).length c9) (Pl.items xx cc ++ Pl.items y cc) := by
          have := Own.rd (Kd.R_N (Kd.R_grown HA9.out hg10 hlw))
          rw [HLAW.out] at this ⊢
          exact this
        refine (sameAll_any _ _ (Pl.items xx cc ++ Pl.items y cc) _ HS (Own.rd ho10)).mono ?_
        rintro e w11 ⟨rfl, hb11⟩
        have hs11 := HB9.out.size
        go_wp2_with fail
        go_ret
        exact ⟨rfl, HB9.out.trans ((hb10.mono (by omega)).trans (hb11.mono (by have := hg10.size; omega)))⟩
    · go_wp2_with fail
      refine calls_at fun W4 hW4 => ?_
      obtain ⟨cc, hcc⟩ : ∃ cc : Pl.Cfg, { Pl.plainC true with num := num, fmt := 2 } = cc := ⟨_, rfl⟩
      have hb4 : Below W3.heap.size W3 W4 := by rw [← hW4]; exact below_alloc (Below.refl _ _) _
      have hf3 : cc.fmt ≠ 3 := by rw [← hcc]; show (2 : UInt8) ≠ 3; decide
      have hsk : cc.skip = true := by rw [← hcc]; rfl
      have HLAW := Lib.hid (HLT.out cc hf3 hsk)
      have hcall := list11_any (.slice A6 xx.length c6) xx cc W4 (Rd.below HX3.out hb4) (by omega)
      have HX4 := Lib.hid (Rd.below HX3.out hb4)
      have HY4 := Lib.hid (Rd.below HY3.out hb4)
      have HB4 := Lib.hid (bthen HB3.out hb4)
      have hsw4 : w.heap.size ≤ W4.heap.size := HB4.out.size
      obtain ⟨bx, hbx⟩ : ∃ bx, W3.heap.size = bx := ⟨_, rfl⟩
      have K4 : Blk W4 bx (cfgC cc) 40 := by rw [← hW4, ← hcc, ← hbx]; exact Blk.new W3 _ _
      rw [hbx]
      rw [← hcc] at hcall
      refine hcall.mono ?_
      rw [hcc]
      clear hcall hcc hW4 hb4 hf3 hsk hbx HLT HX3 HY3 HB3
      rintro e w5 ⟨v5, rfl, ho5, hb5⟩
      obtain ⟨A5, c5, hv5⟩ := Kd.R_slice ho5
      subst hv5
      have K5 := K4.belowW hb5
      have HX5 := Lib.hid (Rd.below HX4.out hb5)
      have HY5 := Lib.hid (Rd.below HY4.out hb5)
      have HB5 := Lib.hid (bthen HB4.out hb5)
      have HL5 := Lib.hid ho5
      have hs45 := hb5.size
      obtain ⟨q0, q1, q2, q3, q4, q5, q6, q7, q8⟩ := cfgAt_of K5
      clear hb5 ho5 K4 HX4 HY4 HB4
      go_wp2_with fail
      refine (list11_any (.slice B n d) y cc w5 HY5.out (by omega)).mono ?_
      rintro e w6 ⟨v6, rfl, ho6, hb6⟩
      obtain ⟨Am, cm, hv6⟩ := Kd.R_slice ho6
      subst hv6
      have K6 := K5.belowW hb6
      have KH6 := Lib.hid (cfgAt_of K6)
      have hlt6 : bx < w6.heap.size := K6.lt
      have HX6 := Lib.hid (Rd.below HX5.out hb6)
      have HY6 := Lib.hid (Rd.below HY5.out hb6)
      have HB6 := Lib.hid (bthen HB5.out hb6)
      have HL6 := Lib.hid (Kd.R_below HL5.out hb6)
      have HM6 := Lib.hid ho6
      have hs56 := hb6.size
      have hlow : ∀ k, (Value.slice A5 (Pl.items xx cc).length c5).ownBlock = some k → k < w5.heap.size := fun k hk => Kd.N_lt (Kd.R_N HL5.out) k hk
      clear q0 q1 q2 q3 q4 q5 q6 q7 q8 hb6 ho6 K5 HX5 HY5 HB5 HL5
      go_wp2_with fail
      go_region_held3 (fun W => W.cell? ⟨bx, 0, none⟩ = some (.int .u8 (cc.fmt.toNat : Int)) ∧ W.cell? ⟨bx, 1, none⟩ = some (.bool cc.num) ∧ W.cell? ⟨bx, 2, none⟩ = some (.bool cc.skip) ∧ W.cell? ⟨bx, 3, none⟩ = some (.bool cc.both) ∧ W.cell? ⟨bx, 4, none⟩ = some (.bool cc.loops) ∧ W.cell? ⟨bx, 5, none⟩ = some (.bool cc.back) ∧ W.cell? ⟨bx, 6, none⟩ = some (.int .i64 cc.bud) ∧ W.cell? ⟨bx, 7, none⟩ = some (.int .i64 cc.fan) ∧ W.cell? ⟨bx, 8, none⟩ = some (.int .i64 cc.sha)) (first | exact KH6.out | exact cfgAt_below KH6.out (below_alloc (Below.refl _ _) _).drew hlt6 | exact cfgAt_below KH6.out HB7.out hlt6 | exact cfgAt_below KH6.out HB8.out hlt6 | exact cfgAt_below KH6.out hbL hlt6)
        (first | (refine appN_step (w0 := w6) w6.heap.size rfl (.tmp 52) (.tmp 53) rfl _ _ [] xx rfl rfl (lit00b w6 _ _ rfl (Nat.le_refl _)).drew (Rd.below HX6.out (below_alloc (Below.refl _ _) _).drew) (below_alloc (Below.refl _ _) _).drew (below_alloc (Below.refl _ _) _).drew.size (by simp; omega) ?_; intro v7 w7 ho7 hb7 hg7 hat7; rw [List.nil_append] at ho7; have HO7 := Lib.hid ho7; have HB7 := Lib.hid hb7) | (refine appN_step (w0 := w6) w6.heap.size rfl (.tmp 54) (.tmp 55) rfl _ _ xx y rfl rfl HO7.out (Rd.below HY6.out HB7.out) HB7.out HB7.out.size (by omega) ?_; intro v8 w8 ho8 hb8 hg8 hat8; obtain ⟨A8, c8, hv8⟩ := Kd.N_slice ho8; rw [List.length_append] at hv8; subst hv8; have HO8 := Lib.hid ho8; have HB8 := Lib.hid hb8) | (go_at_call 20; refine (list11_any _ (xx ++ y) cc _ HO8.out.rd (by simp; omega)).mono ?_; rintro e w9 ⟨v9, rfl, ho9, hb9⟩; obtain ⟨A9, c9, hv9⟩ := Kd.R_slice ho9; subst hv9; have hbL := bthen HB8.out hb9))
      all_goals
        have HA9 := Lib.hid ho9
        have HL9 := Lib.hid (Kd.R_below HL6.out hbL)
        have HM9 := Lib.hid (Kd.R_below HM6.out hbL)
        have HB9 := Lib.hid (bthen HB6.out hbL)
        have hs89 := hb9.size
        have hs68 := HB8.out.size
        clear ho9 hbL hb9 hb8 hb7 ho7 ho8 hat7 hat8 hg7 hg8 HO7 HO8 HL6 HM6 HB6
        have hx1 := Pl.items_len xx cc
        have hy1 := Pl.items_len y cc
        have hlw : ∀ k, w8.heap.size ≤ k → some k ≠ (Value.slice A5 (Pl.items xx cc).length c5).ownBlock := fun k hk he => by have := hlow k he.symm; omega
        go_wp2_with ((with_reducible refine gate_builtin (b := .append) (xs := #[.tmp 73, .tmp 74]) rfl ?_); at_builtin; refine wpList_step fun K hK => ?_; refine Kd.N_append_rows_step kItem (w0 := w9) W4.heap.size ?hw (.tmp 73) (.tmp 74) 29 36 (.agg #[.bool false, .slice none 0 0, .slice none 0 0, .int .i64 0, .int .i64 0]) 72 rfl Try.underlying29 infoItem5 rfl (by decide) (by omega) _ (Pl.items xx cc) (Pl.items y cc) Am (Pl.items y cc).length cm (fun k => W4.heap.size ≤ k) (fun k => w5.heap.size ≤ k) rfl rfl (Kd.R_N HL9.out) (Kd.V_at (Kd.R_V (base' := 0) HM9.out)).2.2 ?hokp ?hfr (Below.refl _ _) ?hba ?hle ?_; (case hw => rfl); (case hokp => exact fun k hk => ⟨by omega, fun he => by have := hlow k he.symm; omega⟩); (case hfr => exact fun k hk => by omega); (case hba => omega); (case hle => omega); intro v10 w10 ho10 hb10 hg10 hat10; refine hK _ _ ?_; obtain ⟨A10, c10, hv10⟩ := Kd.N_slice ho10; rw [List.length_append] at hv10; subst hv10)
        have HS : Rd kItem w10 (.slice A9 (Pl.items (xx ++ y) cc).length c9) (Pl.items xx cc ++ Pl.items y cc) := by
          have := Own.rd (Kd.R_N (Kd.R_grown HA9.out hg10 hlw))
          rw [HLAW.out] at this ⊢
          exact this
        refine (sameAll_any _ _ (Pl.items xx cc ++ Pl.items y cc) _ HS (Own.rd ho10)).mono ?_
        rintro e w11 ⟨rfl, hb11⟩
        have hs11 := HB9.out.size
        go_wp2_with fail
        go_ret
        exact ⟨rfl, HB9.out.trans ((hb10.mono (by omega)).trans (hb11.mono (by have := hg10.size; omega)))⟩
end Go.Proofs.Ytchbfeejpdfmhaa
