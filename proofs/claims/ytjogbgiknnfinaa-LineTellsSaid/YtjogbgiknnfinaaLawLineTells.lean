import Derived.Test.YtjogbgiknnfinaaLaw7
import Derived.Test.YtjogbgiknnfinaaBare
import Derived.Test.YtjogbgiknnfinaaRList
/-! The law LineTells, walked. -/
set_option linter.unusedSimpArgs false
set_option linter.unusedVariables false
namespace Go.Proofs.Ytjogbgiknnfinaa
open Go.RowKit Go.Proofs.YtjogbgiknnfinaaW.PrintWords Go.Proofs.YtjogbgiknnfinaaW.PrintLast Go.Proofs.YtjogbgiknnfinaaW.PrintMore

set_option maxRecDepth 100000 in
set_option maxHeartbeats 4000000 in
theorem lineTells_walk (v : Value) (b : List UInt8) (w : World) (hv : Rd kb w v b) (_ : b.length ≤ 140737488351232) :
    Calls Try.prog 9 #[v] w fun e w' => e = .returned (.bool true) ∧ Below w.heap.size w w' := by
  have HR := Lib.hid hv
  obtain ⟨A0, c0, rfl, hc0, _⟩ := hv
  go_enter Try.func9, Try.ntmps9
  obtain ⟨l, hll⟩ : ∃ l, b.take 1000 = l := ⟨_, rfl⟩
  have hl2 : l.length ≤ 1000 := by rw [← hll]; simp; omega
  have HLL := Lib.hid hll
  clear hll
  go_wp2_with (go_at_call 20; refine (shown07_any _).mono ?_; rintro e w1 ⟨rfl, hb1⟩)
  have HR1 := Lib.hid (Rd.below HR.out hb1)
  have HB1 := Lib.hid hb1
  clear hb1
  refine (few07_any _ _ _ HR1.out).mono ?_
  rintro e w2 ⟨v2, rfl, hr2, rfl⟩
  rw [HLL.out] at hr2
  obtain ⟨A2, c2, hv2⟩ := Kd.V_slice hr2
  subst hv2
  have HR2 := Lib.hid hr2
  clear hr2
  go_wp2_with fail
  refine (list_any _ l _ HR2.out (by omega)).mono ?_
  rintro e w3 ⟨v3, rfl, hr3, hb3⟩
  obtain ⟨A3, c3, hv3⟩ := Kd.N_slice hr3
  subst hv3
  have HR3 := Lib.hid hr3.rd
  have HRw := Lib.hid (Rd.below HR1.out hb3)
  have HB3 := Lib.hid (bthen HB1.out hb3)
  clear hr3 hb3 HR1
  go_wp2_with fail
  refine (few07_any _ _ _ HRw.out).mono ?_
  rintro e w4 ⟨v4, rfl, hr4, rfl⟩
  rw [HLL.out] at hr4
  obtain ⟨A4, c4, hv4⟩ := Kd.V_slice hr4
  subst hv4
  have HR4 := Lib.hid hr4
  clear hr4
  go_wp2_with fail
  refine (rlist_any _ l _ HR4.out (by omega)).mono ?_
  rintro e w5 ⟨v5, rfl, hr5, hb5⟩
  obtain ⟨A5, c5, hv5⟩ := Kd.N_slice hr5
  subst hv5
  have HR5 := Lib.hid hr5.rd
  have HR35 := Lib.hid (Rd.below HR3.out hb5)
  have HB5 := Lib.hid (bthen HB3.out hb5)
  clear hr5 hb5 HR3 HRw
  go_wp2_with fail
  refine (sameL_any _ _ _ _ HR35.out HR5.out).mono ?_
  rintro e w6 ⟨rfl, hb6⟩
  have HR6 := Lib.hid (Rd.below HR5.out hb6)
  have HB6 := Lib.hid (bthen HB5.out hb6)
  clear hb6 HR35 HR5 HB5
  obtain ⟨L, hL⟩ : ∃ L, Pl.lines l = L := ⟨_, rfl⟩
  have HLin := Lib.hid (Pl.lines_in l)
  have hLl : L.length ≤ 1000 := by have := Pl.lines_len l; rw [hL] at this; omega
  rw [hL] at HR6 HLin ⊢
  clear hL
  go_wp2_with fail
  go_loopw [29] (fun i wr => ∃ k : Nat, i = .int .i64 (k : Int) ∧ Aside0 (k ≤ L.length) ∧ Aside0 (Below w6.heap.size w6 wr)) (fun i _ => L.length - (intOf i).toNat)
  case atStart => exact ⟨0, rfl, ⟨by omega⟩, ⟨Below.refl _ _⟩⟩
  case round =>
    obtain ⟨k, rfl, hk, HBw⟩ := hrel
    by_cases hlt : k < L.length
    · obtain ⟨x, hx⟩ : ∃ x, L[k]? = some x := ⟨_, List.getElem?_eq_getElem hlt⟩
      obtain ⟨Ax, cx, hvx, hcx, hFx⟩ := HR6.out
      injection hvx with hvx1 _ hvx2
      subst hvx1 hvx2
      obtain ⟨ad, A7, c7, hAa, hV7, x0, x1⟩ := line_get hFx k x hx
      subst hAa
      obtain ⟨hm1, hm2⟩ := HLin.out x (List.mem_of_getElem? hx)
      have hlA : (ad.add (k * 2)).block < w6.heap.size := World.block_lt_of_cell? _ _ x0
      have y0 := (HBw.out.cell (p := ad.add (k * 2)) hlA).trans x0
      have y1 := (HBw.out.cell (p := ⟨(ad.add (k * 2)).block, (ad.add (k * 2)).off + 1, none⟩) hlA).trans x1
      have HV7 := Lib.hid (Rd.below (Kd.V_mono hV7 fun _ _ => trivial) HBw.out)
      have q1 : (0 : Int) ≤ (k : Int) := by omega
      have q2 : (k : Int) < (L.length : Int) := by omega
      have hm0 : 0 ≤ x.1 := hm1
      have hm3 : x.1 ≤ 4611686018427387904 := by omega
      have hm4 : x.2.length ≤ 1000 := by omega
      obtain ⟨at2, xs, rfl⟩ : ∃ a b, x = (a, b) := ⟨_, _, rfl⟩
      simp only at y0 y1 HV7 hm0 hm3 hm4
      clear hFx hx hV7 x0 x1 hm1 hm2 hcx
      go_wp2_with fail
      refine wp_at fun W1 hW1 => ?_
      have HBa : Below wr.heap.size wr W1 := by rw [← hW1]; exact below_alloc (Below.refl _ _) _
      have KX := Blk.new wr #[.int .i64 at2, .slice A7 xs.length c7] 26
      rw [hW1] at KX
      clear hW1
      have hlt3 := KX.lt
      obtain ⟨hx0, hx1⟩ : W1.cell? ⟨wr.heap.size, 0, none⟩ = some (.int .i64 at2) ∧ W1.cell? ⟨wr.heap.size, 1, none⟩ = some (.slice A7 xs.length c7) := ⟨KX.cell.1 0, KX.cell.1 1⟩
      have hlt2 : wr.heap.size < W1.drew.heap.size := hlt3
      go_region_held3 (fun W => W.cell? ⟨wr.heap.size, 0, none⟩ = some (.int .i64 at2) ∧ W.cell? ⟨wr.heap.size, 1, none⟩ = some (.slice A7 xs.length c7)) (first | exact ⟨hx0, hx1⟩ | exact ⟨(hb8.cell (p := ⟨wr.heap.size, 0, none⟩) hlt2).trans hx0, (hb8.cell (p := ⟨wr.heap.size, 1, none⟩) hlt2).trans hx1⟩ | exact ⟨(hb7.cell (p := ⟨wr.heap.size, 0, none⟩) hlt2).trans hx0, (hb7.cell (p := ⟨wr.heap.size, 1, none⟩) hlt2).trans hx1⟩ | exact ⟨(hb6.cell (p := ⟨wr.heap.size, 0, none⟩) hlt2).trans hx0, (hb6.cell (p := ⟨wr.heap.size, 1, none⟩) hlt2).trans hx1⟩ | exact ⟨(hb5.cell (p := ⟨wr.heap.size, 0, none⟩) hlt2).trans hx0, (hb5.cell (p := ⟨wr.heap.size, 1, none⟩) hlt2).trans hx1⟩ | exact ⟨(hb4.cell (p := ⟨wr.heap.size, 0, none⟩) hlt2).trans hx0, (hb4.cell (p := ⟨wr.heap.size, 1, none⟩) hlt2).trans hx1⟩)
        (first | (go_at_call 23; refine (words_any _ at2 xs _ (Rd.below HV7.out HBa.drew) hm0 hm3 (by omega)).mono ?_; rintro e w4 ⟨va, rfl, hoa, hb4⟩; obtain ⟨A3, c3, hva⟩ := Kd.N_slice hoa; subst hva) | (go_at_call 27; refine (rwords_any _ at2 xs _ (Rd.below HV7.out (bthen HBa.drew hb4)) hm0 hm3 (by omega)).mono ?_; rintro e w5 ⟨va, rfl, hoc, hb5'⟩; have hb5 := bthen hb4 hb5'; obtain ⟨A5, c5, hva⟩ := Kd.N_slice hoc; subst hva; have hoa5 := hoa.below hb5'; clear hb5') | (go_at_call 25; refine (sameL_any _ _ _ _ hoa5.rd hoc.rd).mono ?_; rintro e w6 ⟨rfl, hb6'⟩; have hb6 := bthen hb5 hb6'; clear hb6') | (go_at_call 28; refine (bare_any _ at2 xs _ (Rd.below HV7.out (bthen HBa.drew hb6)) hm0 hm3 (by omega)).mono ?_; rintro e w7 ⟨rfl, hb7'⟩; have hb7 := bthen hb6 hb7'; clear hb7') | (go_at_call 29; refine (rbare_any _ at2 xs _ (Rd.below HV7.out (bthen HBa.drew hb7)) hm0 hm3 (by omega)).mono ?_; rintro e w8 ⟨rfl, hb8'⟩; have hb8 := bthen hb7 hb8'; clear hb8'))
      go_wp2
      go_roundw
      case rel => exact ⟨k + 1, by go_num, ⟨by omega⟩, ⟨bthen HBw.out (bthen HBa.drew hb8)⟩⟩
      case measure => simp [intOf]; omega
    · obtain rfl : k = L.length := by have := hk.out; omega
      have hd : decide ((L.length : Int) < (L.length : Int)) = false := by simp
      go_wp2_with fail
      go_ret
      exact ⟨rfl, bthen HB6.out HBw.out⟩
end Go.Proofs.Ytjogbgiknnfinaa
