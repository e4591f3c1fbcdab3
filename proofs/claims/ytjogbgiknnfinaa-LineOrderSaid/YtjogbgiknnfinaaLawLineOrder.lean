import Derived.Test.YtjogbgiknnfinaaLaw7
import Derived.Test.YtjogbgiknnfinaaPlainOrder
/-! The law LineOrder, walked. -/
set_option linter.unusedSimpArgs false
set_option linter.unusedVariables false
namespace Go.Proofs.Ytjogbgiknnfinaa
open Go.RowKit Go.Proofs.YtjogbgiknnfinaaW.PrintWords Go.Proofs.YtjogbgiknnfinaaW.PrintLast Go.Proofs.YtjogbgiknnfinaaW.PrintMore

theorem litF {w : World} {g : Nat} {e : Int} (h : w.heap[g]? = some (.cells #[.int .i64 e, .slice none 0 0] 26)) : Kd.F kLine w (fun k => k = g) (some ⟨g, 0, none⟩) 1 [(e, [])] := by
  have : Kd.V kLine 0 w 0 (fun k => k = g) (.slice (some ⟨g, 0, none⟩) 1 1) [(e, [])] := krow_rd (xs := [(e, ([] : List UInt8))]) h (fun j x hx => by
    rcases j with _ | j
    · simp only [List.getElem?_cons_zero, Option.some.injEq] at hx
      subst hx
      refine ⟨_, line_FK (Kd.V_nil kb 0 w 0 _), fun i u hu => ?_⟩
      rcases i with _ | _ | i <;> first | exact hu | simp at hu
    · simp at hx) rfl (by simp) (by simp)
  exact (Kd.V_at this).2.2

set_option maxRecDepth 100000 in
set_option maxHeartbeats 4000000 in
theorem lineOrder_walk (v : Value) (b : List UInt8) (w : World) (hv : Rd kb w v b) (_ : b.length ≤ 140737488351232) :
    Calls Try.prog 6 #[v] w fun e w' => e = .returned (.bool true) ∧ Below w.heap.size w w' := by
  have HR := Lib.hid hv
  obtain ⟨A0, c0, rfl, hc0, _⟩ := hv
  go_enter Try.func6, Try.ntmps6
  obtain ⟨l, hll⟩ : ∃ l, b.take 1000 = l := ⟨_, rfl⟩
  have hl2 : l.length ≤ 1000 := by rw [← hll]; simp; omega
  have HLL := Lib.hid hll
  clear hll
  go_wp2_with (go_at_call 20; refine (shown07_any _).mono ?_; rintro e w1 ⟨rfl, hb1⟩)
  have HR1 := Lib.hid (Rd.below HR.out hb1)
  have HB1 := Lib.hid hb1
  clear hb1
  refine (few07_any _ _ _ HR1.out).mono ?_
  rintro e w2 ⟨v2, rfl, hr2, rfl⟩
  rw [HLL.out] at hr2
  obtain ⟨A2, c2, hv2⟩ := Kd.V_slice hr2
  subst hv2
  have HR2 := Lib.hid hr2
  clear hr2
  go_wp2_with fail
  refine (list_any _ l _ HR2.out (by omega)).mono ?_
  rintro e w3 ⟨v3, rfl, hr3, hb3⟩
  have HX3 := Lib.hid (Rd.below HR2.out hb3)
  have HB3 := Lib.hid (bthen HB1.out hb3)
  have hch := Pl.lines_chain l l.length 0 0 (by omega) (by omega) (by omega) (fun j h1 h2 => by omega)
  rw [List.drop_zero] at hch
  have hch2 : Pl.Chain l l.length Pl.isEnd 0 (Pl.lines l ++ [((l.length : Int), [])]) := hch
  have hLl := Pl.lines_len l
  have HO3 := Lib.hid hr3
  have hs23 : w1.heap.size ≤ w3.heap.size := hb3.size
  have HB23 := Lib.hid hb3
  obtain ⟨L, hL⟩ : ∃ L, Pl.lines l = L := ⟨_, rfl⟩
  rw [hL] at hch2 hLl HO3
  have HCH := Lib.hid hch2
  clear hr3 hb3 hch hch2 hL HR1
  go_wp2_with ((with_reducible refine gate_builtin (b := .append) (xs := #[.tmp 23, .tmp 27]) rfl ?_); at_builtin; refine Kd.N_append kLine (w0 := w1) w1.heap.size rfl (.tmp 23) (.tmp 27) 40 26 (.agg #[(.int .i64 0), (.slice none 0 0)]) 32 rfl Try.underlying40 infoLine rfl (by decide) (by omega) _ L ((l.length : Int), []) [.int .i64 (l.length : Int), .slice none 0 0] (fun k => w1.heap.size ≤ k) (fun k => False) rfl rfl ?aP ?aQ ?aF ?aO ?aB ?aS ?aL ?_; (case aP => exact line_FK (Kd.V_nil _ _ _ _ _)); (case aQ => exact fun j hj => hj.elim); (case aF => exact fun j hj => by omega); (case aO => exact HO3.out); (case aB => exact HB23.out); (case aS => exact hs23); (case aL => omega); intro v4 w4 ho4 hb4 hg4 hat4; have HX4 := Lib.hid (Rd.below HR2.out hb4); obtain ⟨A4, c4, hv4⟩ := Kd.N_slice ho4; rw [List.length_append, List.length_singleton] at hv4; subst hv4; have HO4 := Lib.hid (Own.rd ho4); have HB4 := Lib.hid hb4; clear ho4 hb4 hg4 hat4)
  obtain ⟨LL, hLLe⟩ : ∃ z, L ++ [((l.length : Int), ([] : List UInt8))] = z := ⟨_, rfl⟩
  have hLLl : LL.length = L.length + 1 := by rw [← hLLe]; simp
  rw [hLLe] at HCH HO4
  have HLLl := Lib.hid hLLl
  clear hLLe hLLl HO3 HX3 HB23
  go_loopw [7, 30] (fun at_ i wr => ∃ (k a : Nat), at_ = .int .i64 (a : Int) ∧ i = .int .i64 (k : Int) ∧ Aside0 (k ≤ L.length + 1) ∧ Aside0 (Pl.Chain l l.length Pl.isEnd a (LL.drop k)) ∧ Aside0 (Below w4.heap.size w4 wr)) (fun _ i _ => L.length + 1 - (intOf i).toNat)
  case atStart => exact ⟨0, 0, rfl, rfl, ⟨by omega⟩, ⟨by simpa using HCH.out⟩, ⟨Below.refl _ _⟩⟩
  case round =>
    obtain ⟨k, a, rfl, rfl, hk, HC, HBw⟩ := hrel
    by_cases hlt : k < L.length + 1
    · have hkl : k < LL.length := by rw [HLLl.out]; exact hlt
      obtain ⟨y, hy⟩ : ∃ y, LL[k]? = some y := ⟨_, List.getElem?_eq_getElem hkl⟩
      have hdr : LL.drop k = y :: LL.drop (k + 1) := by
        rw [List.drop_eq_getElem_cons hkl]
        rw [List.getElem?_eq_getElem hkl] at hy
        rw [Option.some.inj hy]
      have hC := HC.out
      rw [hdr] at hC
      obtain ⟨n, hn1, hn2, hn3, hn4, hn5, hn6⟩ := hC
      have hF4 := (Kd.V_at HO4.out).2.2
      obtain ⟨ad, A7, c7, hAa, hV7, x0, x1⟩ := line_get hF4 k y hy
      subst hAa
      obtain ⟨yy, bs, rfl⟩ : ∃ a b, y = (a, b) := ⟨_, _, rfl⟩
      simp only at hn1 hn3 hn4 hn6 hV7 x0 x1
      subst hn1
      have hlA : (ad.add (k * 2)).block < w4.heap.size := World.block_lt_of_cell? _ _ x0
      have y0 := (HBw.out.cell (p := ad.add (k * 2)) hlA).trans x0
      have y1 := (HBw.out.cell (p := ⟨(ad.add (k * 2)).block, (ad.add (k * 2)).off + 1, none⟩) hlA).trans x1
      have HV7 := Lib.hid (Rd.below (Kd.V_mono hV7 fun _ _ => trivial) HBw.out)
      have HXw := Lib.hid (Rd.below HX4.out HBw.out)
      have HC6 := Lib.hid hn6
      have HP5 := Lib.hid hn5
      have HE4 := Lib.hid hn4
      have q1 : (0 : Int) ≤ (k : Int) := by omega
      have q2 : (k : Int) < (L.length : Int) + 1 := by omega
      clear hF4 hy hdr hn4 hn5 hn6 hV7 x0 x1 hkl
      go_wp2_with fail
      refine wp_at fun W1 hW1 => ?_
      have HBa : Below wr.heap.size wr W1 := by rw [← hW1]; exact below_alloc (Below.refl _ _) _
      have KX := Blk.new wr #[.int .i64 (n : Int), .slice A7 bs.length c7] 26
      rw [hW1] at KX
      clear hW1
      have hlt3 := KX.lt
      obtain ⟨hx0, hx1⟩ : W1.cell? ⟨wr.heap.size, 0, none⟩ = some (.int .i64 (n : Int)) ∧ W1.cell? ⟨wr.heap.size, 1, none⟩ = some (.slice A7 bs.length c7) := ⟨KX.cell.1 0, KX.cell.1 1⟩
      have HX1 := Lib.hid (Rd.below HXw.out HBa.drew)
      have HV1 := Lib.hid (Rd.below HV7.out HBa.drew)
      have e2 := byte_string HV1.out
      obtain ⟨hcx, hFx⟩ := (Kd.V_at HX1.out).2
      obtain ⟨A8, hcut, hV8⟩ := byte_cut hFx hcx n (n + bs.length) (by omega) hn3
      rw [List.drop_take, Nat.add_sub_cancel_left, HE4.out] at hV8
      rw [Nat.add_sub_cancel_left] at hcut
      have e1 := byte_string (Kd.V_mono hV8 fun _ _ => trivial)
      replace hcut := hcut .i64 .i64 (n : Int) ((n : Int) + (bs.length : Int)) rfl (by omega)
      have hw1 : IntKind.i64.wrap ((n : Int) + (bs.length : Int)) = (n : Int) + (bs.length : Int) := IntWalk.i64_in _ (by omega)
      have hd1 : decide ((n : Int) < (a : Int)) = false := by simp; omega
      have hd2 : decide ((l.length : Int) < (n : Int) + (bs.length : Int)) = false := by simp; omega
      have hd3 : decide (n < a) = false := by simp; omega
      have hd4 : decide (l.length < n + bs.length) = false := by simp; omega
      clear hV8 hFx
      go_region_held3 (fun W => W.cell? ⟨wr.heap.size, 0, none⟩ = some (.int .i64 (n : Int)) ∧ W.cell? ⟨wr.heap.size, 1, none⟩ = some (.slice A7 bs.length c7) ∧ (convert 22 9 (.slice A8 bs.length (c2 - n))).run Try.prog W = .ok (.string ⟨bs.toArray⟩) W ∧ (convert 22 9 (.slice A7 bs.length c7)).run Try.prog W = .ok (.string ⟨bs.toArray⟩) W) (first | exact ⟨hx0, hx1, e1, e2⟩)
        (first | fail)
      go_wp2
      have hz0 : W1.drew.cell? ⟨wr.heap.size, 0, none⟩ = some (.int .i64 (n : Int)) := hx0
      have hz1 : W1.drew.cell? ⟨wr.heap.size, 1, none⟩ = some (.slice A7 bs.length c7) := hx1
      obtain ⟨W2, hW2⟩ : ∃ z, W1.drew = z := ⟨_, rfl⟩
      have HB2 := Lib.hid (show Below wr.heap.size wr W2 by rw [← hW2]; exact HBa.drew)
      have hltW : wr.heap.size < W2.heap.size := by rw [← hW2]; exact hlt3
      rw [hW2] at hz0 hz1 HX1 HV1 ⊢
      clear hW2 hx0 hx1 KX HBa e1 e2 hcut hd1 hd3 y0 y1
      go_loop [7] (fun e => ∃ j : Nat, e = .int .i64 (j : Int) ∧ Aside0 (a ≤ j ∧ j ≤ n)) (fun e => n - (intOf e).toNat)
      case atStart => exact ⟨a, rfl, ⟨by omega, by omega⟩⟩
      case round =>
        obtain ⟨j, rfl, hj⟩ := hrel
        obtain ⟨hj1, hj2⟩ := hj.out
        by_cases hjn : j < n
        · have hP := HP5.out j hj1 hjn
          obtain ⟨ax, hax, hce⟩ := kb_cell (Kd.V_at HX1.out).2.2 j (by omega)
          subst hax
          obtain ⟨ch, hch⟩ : ∃ c, l.getD j 0 = c := ⟨_, rfl⟩
          rw [hch] at hce hP
          have p1 : (0 : Int) ≤ (j : Int) := by omega
          have p2 : (j : Int) < (l.length : Int) := by omega
          have p3 : decide ((j : Int) < (n : Int)) = true := by simp; omega
          have p4 : decide (j < n) = true := by simp; omega
          clear hch
          rcases (by simpa [Pl.isEnd] using hP : ch = 10 ∨ ch = 13) with rfl | rfl
          · go_wp2_with fail
            go_round
            case rel => exact ⟨j + 1, by go_num, ⟨by omega, by omega⟩⟩
            case measure => simp [intOf]; omega
          · go_wp2_with fail
            go_round
            case rel => exact ⟨j + 1, by go_num, ⟨by omega, by omega⟩⟩
            case measure => simp [intOf]; omega
        · obtain rfl : j = n := by omega
          have p3 : decide ((j : Int) < (j : Int)) = false := by simp
          have p4 : decide (j < j) = false := by simp
          go_wp2_with fail
          have hw1' : IntKind.i64.wrap ((j : Int) + (bs.length : Int)) = (j : Int) + (bs.length : Int) := IntWalk.i64_in _ (by omega)
          obtain ⟨WW, hWW⟩ : ∃ z, Pl.words (j : Int) bs = z := ⟨_, rfl⟩
          have hwl : WW.length ≤ bs.length := by rw [← hWW]; exact Pl.words_len _ _
          have hwch := Pl.words_chain l bs j bs.length HE4.out (by omega) 0 j (by omega) (by omega) (by omega) (fun i h1 h2 => by omega)
          rw [List.drop_zero] at hwch
          have hwch2 : Pl.Chain l (j + bs.length) Pl.isBl j (Pl.words (j : Int) bs ++ [((j : Int) + (bs.length : Int), [])]) := hwch
          have hwa := fun w hw => words_any (.slice A7 bs.length c7) (j : Int) bs w hw (by omega) (by omega) (by omega)
          rw [hWW] at hwch2 hwa
          have HWC := Lib.hid hwch2
          have HWA := Lib.hid hwa
          clear hwch hwch2 hwa hWW
          go_region_held3 (fun W => W.cell? ⟨wr.heap.size, 0, none⟩ = some (.int .i64 (j : Int)) ∧ W.cell? ⟨wr.heap.size, 1, none⟩ = some (.slice A7 bs.length c7)) (first | exact ⟨hz0, hz1⟩ | exact ⟨(hb5.cell (p := ⟨wr.heap.size, 0, none⟩) hltW).trans hz0, (hb5.cell (p := ⟨wr.heap.size, 1, none⟩) hltW).trans hz1⟩ | exact ⟨(hb6.cell (p := ⟨wr.heap.size, 0, none⟩) hltW).trans hz0, (hb6.cell (p := ⟨wr.heap.size, 1, none⟩) hltW).trans hz1⟩ | go_keep)
            (first | (go_at_call 23; refine (HWA.out _ (Rd.below HV1.out (Below.refl _ _).drew)).mono ?_; rintro e w5 ⟨va, rfl, hoa, hb5'⟩; have hb5 := bthen (Below.refl W2.heap.size W2).drew hb5'; clear hb5') | (go_at_call 23; refine (HWA.out _ (Rd.below HV1.out (below_alloc (Below.refl _ _).drew _))).mono ?_; rintro e w5 ⟨va, rfl, hoa, hb5'⟩; have hb5 := bthen (below_alloc (Below.refl W2.heap.size W2).drew _) hb5'; have hlit : w5.heap[W2.heap.size]? = some (.cells #[.int .i64 ((j : Int) + (bs.length : Int)), .slice none 0 0] 26) := (hb5'.block W2.heap.size (by first | simp | (rw [World.size_alloc]; exact Nat.lt_succ_self _))).trans (heap_alloc_new W2.drew _); have hoa2 := Own.lower hoa (b := W2.heap.size) (by first | simp | (rw [World.size_alloc]; exact Nat.le_succ _)); have hva := fun k he => Kd.N_base hoa k he; rw [World.size_alloc] at hva) | (refine Kd.N_append_step kLine (w0 := W2) W2.heap.size rfl (.tmp 92) (.tmp 100) 40 26 (.agg #[(.int .i64 0), (.slice none 0 0)]) 32 rfl Try.underlying40 infoLine rfl (by decide) (by omega) _ WW ((j : Int) + (bs.length : Int), []) [.int .i64 ((j : Int) + (bs.length : Int)), .slice none 0 0] (fun k => W2.heap.size ≤ k) (fun k => False) rfl rfl ?aP ?aQ ?aF ?aO ?aB ?aS ?aL ?_; (case aP => exact line_FK (Kd.V_nil _ _ _ _ _)); (case aQ => exact fun j hj => hj.elim); (case aF => exact fun j hj => Nat.le_trans hb5.size hj); (case aO => exact hoa); (case aB => exact hb5); (case aS => exact hb5.size); (case aL => omega); intro v6 w6 ho6 hb6 hg6 hat6; obtain ⟨A6, c6, hv6⟩ := Kd.N_slice ho6; rw [List.length_append, List.length_singleton] at hv6; subst hv6) | (refine Kd.N_append_rows_step kLine (w0 := W2) W2.heap.size rfl (.tmp 92) (.tmp 100) 40 26 (.agg #[(.int .i64 0), (.slice none 0 0)]) 32 rfl Try.underlying40 infoLine rfl (by decide) (by omega) va WW [((j : Int) + (bs.length : Int), [])] (some ⟨W2.heap.size, 0, none⟩) 1 1 (fun k => W2.heap.size ≤ k) (fun k => k = W2.heap.size) rfl rfl ?aO ?aR ?aQ ?aF ?aB ?aS ?aL ?_; (case aO => exact hoa2); (case aR => exact litF hlit); (case aQ => exact fun k hk => ⟨by omega, fun he => by have h1 := hva k he.symm; have h2 : W2.drew.heap.size = W2.heap.size := rfl; omega⟩); (case aF => exact fun j hj => Nat.le_trans hb5.size hj); (case aB => exact hb5); (case aS => exact hb5.size); (case aL => omega); intro v6 w6 ho6 hb6 hg6 hat6; obtain ⟨A6, c6, hv6⟩ := Kd.N_slice ho6; rw [List.length_append, List.length_singleton] at hv6; subst hv6))
          all_goals
            obtain ⟨wb, hwb⟩ : ∃ z, z = wr := ⟨_, rfl⟩
            subst hwb
            obtain ⟨QQ, hQQ⟩ : ∃ z, WW ++ [((j : Int) + (bs.length : Int), ([] : List UInt8))] = z := ⟨_, rfl⟩
            have hQl : QQ.length = WW.length + 1 := by rw [← hQQ]; simp
            have HQl := Lib.hid hQl
            have ho6' := Own.rd ho6
            rw [hQQ] at ho6' HWC
            have HO6 := Lib.hid ho6'
            have HB6 := Lib.hid hb6
            have HX6 := Lib.hid (Rd.below HX1.out hb6)
            have c60 := (hb6.cell (p := ⟨wb.heap.size, 0, none⟩) hltW).trans hz0
            have c61 := (hb6.cell (p := ⟨wb.heap.size, 1, none⟩) hltW).trans hz1
            have hlt6 : wb.heap.size < w6.heap.size := by have := hb6.size; omega
            clear ho6 ho6' hb6 hg6 hat6 hQQ hQl HWA hb5 hoa hw1 hd2 hd4 hz0 hz1
            go_wp2
            go_loopw [10, 103] (fun kk i wr => ∃ (q e : Nat), kk = .int .i64 (e : Int) ∧ i = .int .i64 (q : Int) ∧ Aside0 (q ≤ WW.length + 1) ∧ Aside0 (Pl.Chain l (j + bs.length) Pl.isBl e (QQ.drop q)) ∧ Aside0 (Below w6.heap.size w6 wr)) (fun _ i _ => WW.length + 1 - (intOf i).toNat)
            case atStart => exact ⟨0, j, rfl, rfl, ⟨by omega⟩, ⟨by simpa using HWC.out⟩, ⟨Below.refl _ _⟩⟩
            case round =>
              obtain ⟨q, e, rfl, rfl, hq, HD, HBq⟩ := hrel
              by_cases hqt : q < WW.length + 1
              · have hkl : q < QQ.length := by rw [HQl.out]; exact hqt
                obtain ⟨y, hy⟩ : ∃ y, QQ[q]? = some y := ⟨_, List.getElem?_eq_getElem hkl⟩
                have hdr : QQ.drop q = y :: QQ.drop (q + 1) := by
                  rw [List.drop_eq_getElem_cons hkl]
                  rw [List.getElem?_eq_getElem hkl] at hy
                  rw [Option.some.inj hy]
                have hC := HD.out
                rw [hdr] at hC
                obtain ⟨m, hn1, hm2, hm3, hn4, hn5, hn6⟩ := hC
                have hF4 := (Kd.V_at HO6.out).2.2
                obtain ⟨bd, A9, c9, hAb, hV9, x0, x1⟩ := line_get hF4 q y hy
                subst hAb
                obtain ⟨yy, ws, rfl⟩ : ∃ a b, y = (a, b) := ⟨_, _, rfl⟩
                simp only at hn1 hm3 hn4 hn6 hV9 x0 x1
                subst hn1
                have hlB : (bd.add (q * 2)).block < w6.heap.size := World.block_lt_of_cell? _ _ x0
                have y0 := (HBq.out.cell (p := bd.add (q * 2)) hlB).trans x0
                have y1 := (HBq.out.cell (p := ⟨(bd.add (q * 2)).block, (bd.add (q * 2)).off + 1, none⟩) hlB).trans x1
                have HV9 := Lib.hid (Rd.below (Kd.V_mono hV9 fun _ _ => trivial) HBq.out)
                have HXq := Lib.hid (Rd.below HX6.out HBq.out)
                have HD6 := Lib.hid hn6
                have HP9 := Lib.hid hn5
                have HE9 := Lib.hid hn4
                have d0 := (HBq.out.cell (p := ⟨wb.heap.size, 0, none⟩) hlt6).trans c60
                have d1 := (HBq.out.cell (p := ⟨wb.heap.size, 1, none⟩) hlt6).trans c61
                have q3 : (0 : Int) ≤ (q : Int) := by omega
                have q4 : (q : Int) < (WW.length : Int) + 1 := by omega
                have hltq : wb.heap.size < wr.heap.size := by have := HBq.out.size; omega
                clear hF4 hy hdr hn4 hn5 hn6 hV9 x0 x1 hkl
                go_wp2_with fail
                refine wp_at fun W3 hW3 => ?_
                have HBa : Below wr.heap.size wr W3 := by rw [← hW3]; exact below_alloc (Below.refl _ _) _
                have KX := Blk.new wr #[.int .i64 (m : Int), .slice A9 ws.length c9] 26
                rw [hW3] at KX
                clear hW3
                have hlt3' := KX.lt
                obtain ⟨hx0, hx1⟩ : W3.cell? ⟨wr.heap.size, 0, none⟩ = some (.int .i64 (m : Int)) ∧ W3.cell? ⟨wr.heap.size, 1, none⟩ = some (.slice A9 ws.length c9) := ⟨KX.cell.1 0, KX.cell.1 1⟩
                have f0 := (HBa.cell (p := ⟨wb.heap.size, 0, none⟩) hltq).trans d0
                have f1 := (HBa.cell (p := ⟨wb.heap.size, 1, none⟩) hltq).trans d1
                have HX3 := Lib.hid (Rd.below HXq.out HBa.drew)
                have HV3 := Lib.hid (Rd.below HV9.out HBa.drew)
                have e2 := byte_string HV3.out
                obtain ⟨hcx3, hFx⟩ := (Kd.V_at HX3.out).2
                obtain ⟨A8', hcut, hV8⟩ := byte_cut hFx hcx3 m (m + ws.length) (by omega) (by omega)
                rw [List.drop_take, Nat.add_sub_cancel_left, HE9.out] at hV8
                rw [Nat.add_sub_cancel_left] at hcut
                have e1 := byte_string (Kd.V_mono hV8 fun _ _ => trivial)
                replace hcut := hcut .i64 .i64 (m : Int) ((m : Int) + (ws.length : Int)) rfl (by omega)
                have hw1 : IntKind.i64.wrap ((m : Int) + (ws.length : Int)) = (m : Int) + (ws.length : Int) := IntWalk.i64_in _ (by omega)
                have hd1 : decide ((m : Int) < (e : Int)) = false := by simp; omega
                have hd2 : decide ((j : Int) + (bs.length : Int) < (m : Int) + (ws.length : Int)) = false := by simp; omega
                have hd3 : decide (m < e) = false := by simp; omega
                have hd4 : decide (j + bs.length < m + ws.length) = false := by simp; omega
                clear hV8 hFx
                go_region_held3 (fun W => W.cell? ⟨wr.heap.size, 0, none⟩ = some (.int .i64 (m : Int)) ∧ W.cell? ⟨wr.heap.size, 1, none⟩ = some (.slice A9 ws.length c9) ∧ W.cell? ⟨wb.heap.size, 0, none⟩ = some (.int .i64 (j : Int)) ∧ W.cell? ⟨wb.heap.size, 1, none⟩ = some (.slice A7 bs.length c7) ∧ (convert 22 9 (.slice A8' ws.length (c2 - m))).run Try.prog W = .ok (.string ⟨ws.toArray⟩) W ∧ (convert 22 9 (.slice A9 ws.length c9)).run Try.prog W = .ok (.string ⟨ws.toArray⟩) W) (first | exact ⟨hx0, hx1, f0, f1, e1, e2⟩)
                  (first | fail)
                go_wp2
                have hz0 : W3.drew.cell? ⟨wr.heap.size, 0, none⟩ = some (.int .i64 (m : Int)) := hx0
                have hz1 : W3.drew.cell? ⟨wr.heap.size, 1, none⟩ = some (.slice A9 ws.length c9) := hx1
                obtain ⟨W4, hW4⟩ : ∃ z, W3.drew = z := ⟨_, rfl⟩
                have HB4' := Lib.hid (show Below wr.heap.size wr W4 by rw [← hW4]; exact HBa.drew)
                rw [hW4] at hz0 hz1 HX3 HV3 ⊢
                clear hW4 hx0 hx1 KX HBa e1 e2 hcut hd1 hd3 y0 y1 f0 f1 d0 d1
                go_loop [10] (fun z => ∃ i : Nat, z = .int .i64 (i : Int) ∧ Aside0 (e ≤ i ∧ i ≤ m)) (fun z => m - (intOf z).toNat)
                case atStart => exact ⟨e, rfl, ⟨by omega, by omega⟩⟩
                case round =>
                  obtain ⟨i, rfl, hi⟩ := hrel
                  obtain ⟨hi1, hi2⟩ := hi.out
                  by_cases him : i < m
                  · have hP := HP9.out i hi1 him
                    obtain ⟨ax, hax, hce⟩ := kb_cell (Kd.V_at HX3.out).2.2 i (by omega)
                    subst hax
                    obtain ⟨ch, hch⟩ : ∃ c, l.getD i 0 = c := ⟨_, rfl⟩
                    rw [hch] at hce hP
                    have p1 : (0 : Int) ≤ (i : Int) := by omega
                    have p2 : (i : Int) < (l.length : Int) := by omega
                    have p3 : decide ((i : Int) < (m : Int)) = true := by simp; omega
                    have p4 : decide (i < m) = true := by simp; omega
                    clear hch
                    rcases (by simpa [Pl.isBl] using hP : ch = 32 ∨ ch = 9) with rfl | rfl
                    · go_wp2_with fail
                      go_round
                      case rel => exact ⟨i + 1, by go_num, ⟨by omega, by omega⟩⟩
                      case measure => simp [intOf]; omega
                    · go_wp2_with fail
                      go_round
                      case rel => exact ⟨i + 1, by go_num, ⟨by omega, by omega⟩⟩
                      case measure => simp [intOf]; omega
                  · obtain rfl : i = m := by omega
                    have p3 : decide ((i : Int) < (i : Int)) = false := by simp
                    have p4 : decide (i < i) = false := by simp
                    have hwq : IntKind.i64.wrap ((q : Int) + 1) = (q : Int) + 1 := IntWalk.i64_in _ (by omega)
                    go_wp2_with fail
                    go_roundw
                    case rel => exact ⟨q + 1, i + ws.length, by go_num, by go_num, ⟨by omega⟩, ⟨HD6.out⟩, ⟨bthen HBq.out HB4'.out⟩⟩
                    case measure => simp [intOf]; omega
              · obtain rfl : q = WW.length + 1 := by have := hq.out; omega
                have hd : decide (((WW.length + 1 : Nat) : Int) < (WW.length : Int) + 1) = false := by simp
                go_wp2_with fail
                go_roundw
                case rel => exact ⟨k + 1, j + bs.length, by go_num, by go_num, ⟨by omega⟩, ⟨HC6.out⟩, ⟨bthen HBw.out (bthen HB2.out (bthen HB6.out HBq.out))⟩⟩
                case measure => simp [intOf]; omega
    · obtain rfl : k = L.length + 1 := by have := hk.out; omega
      have hC := HC.out
      rw [List.drop_of_length_le (by rw [HLLl.out]; exact Nat.le_refl _)] at hC
      obtain rfl : a = l.length := hC
      have hd : decide (((L.length + 1 : Nat) : Int) < (L.length : Int) + 1) = false := by simp
      go_wp2_with fail
      go_ret
      exact ⟨rfl, bthen HB1.out (bthen HB4.out HBw.out)⟩
end Go.Proofs.Ytjogbgiknnfinaa
