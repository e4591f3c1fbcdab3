import Derived.Test.YtjogbgiknnfinaaLaw7
import Derived.Test.YtjogbgiknnfinaaBare
/-! The law LineWords, walked. -/
set_option linter.unusedSimpArgs false
set_option linter.unusedVariables false
namespace Go.Proofs.Ytjogbgiknnfinaa
open Go.RowKit Go.Proofs.YtjogbgiknnfinaaW.PrintWords Go.Proofs.YtjogbgiknnfinaaW.PrintLast Go.Proofs.YtjogbgiknnfinaaW.PrintMore

set_option maxRecDepth 100000 in
set_option maxHeartbeats 4000000 in
theorem lineWords_walk (v : Value) (b : List UInt8) (at_ : Int) (w : World) (hv : Rd kb w v b) (_ : b.length ≤ 140737488351232) (ha : 0 ≤ at_) (hb : at_ ≤ 18446744073709551615) :
    Calls Try.prog 10 #[v, .int .u64 at_] w fun e w' => e = .returned (.bool true) ∧ Below w.heap.size w w' := by
  have HR := Lib.hid hv
  obtain ⟨A0, c0, rfl, hc0, _⟩ := hv
  have hm1 : 0 ≤ at_ % 1099511627776 := by omega
  have hm2 : at_ % 1099511627776 ≤ 4611686018427387904 := by omega
  have hm3 : IntKind.i64.wrap (at_ % 1099511627776) = at_ % 1099511627776 := IntWalk.i64_in _ (by omega)
  clear hb
  go_enter Try.func10, Try.ntmps10
  obtain ⟨l, hll⟩ : ∃ l, b.take 1000 = l := ⟨_, rfl⟩
  have hl2 : l.length ≤ 1000 := by rw [← hll]; simp; omega
  have HLL := Lib.hid hll
  clear hll
  go_wp2_with (go_at_call 21; refine (few07_any _ _ _ HR.out).mono ?_; rintro e w1 ⟨v2, rfl, hr2, rfl⟩; rw [HLL.out] at hr2; obtain ⟨A2, c2, hv2⟩ := Kd.V_slice hr2; subst hv2; have HR2 := Lib.hid hr2; clear hr2)
  refine wp_at fun W1 hW1 => ?_
  have HB1 : Below w.heap.size w W1 := by rw [← hW1]; exact below_alloc (Below.refl _ _) _
  have KX := Blk.new w #[.int .i64 (at_ % 1099511627776), .slice A2 l.length c2] 26
  rw [hW1] at KX
  clear hW1
  obtain ⟨at2, hat2⟩ : ∃ x, at_ % 1099511627776 = x := ⟨_, rfl⟩
  rw [hat2] at KX hm1 hm2 hm3 ⊢
  clear hat2 hm3
  have hlt := KX.lt
  obtain ⟨hx0, hx1⟩ : W1.cell? ⟨w.heap.size, 0, none⟩ = some (.int .i64 at2) ∧ W1.cell? ⟨w.heap.size, 1, none⟩ = some (.slice A2 l.length c2) := ⟨KX.cell.1 0, KX.cell.1 1⟩
  have hlt2 : w.heap.size < W1.drew.heap.size := hlt
  go_region_held3 (fun W => W.cell? ⟨w.heap.size, 0, none⟩ = some (.int .i64 at2) ∧ W.cell? ⟨w.heap.size, 1, none⟩ = some (.slice A2 l.length c2)) (first | exact ⟨hx0, hx1⟩ | exact ⟨(hb8.cell (p := ⟨w.heap.size, 0, none⟩) hlt2).trans hx0, (hb8.cell (p := ⟨w.heap.size, 1, none⟩) hlt2).trans hx1⟩ | exact ⟨(hb7.cell (p := ⟨w.heap.size, 0, none⟩) hlt2).trans hx0, (hb7.cell (p := ⟨w.heap.size, 1, none⟩) hlt2).trans hx1⟩ | exact ⟨(hb6.cell (p := ⟨w.heap.size, 0, none⟩) hlt2).trans hx0, (hb6.cell (p := ⟨w.heap.size, 1, none⟩) hlt2).trans hx1⟩ | exact ⟨(hb5.cell (p := ⟨w.heap.size, 0, none⟩) hlt2).trans hx0, (hb5.cell (p := ⟨w.heap.size, 1, none⟩) hlt2).trans hx1⟩ | exact ⟨(hb4.cell (p := ⟨w.heap.size, 0, none⟩) hlt2).trans hx0, (hb4.cell (p := ⟨w.heap.size, 1, none⟩) hlt2).trans hx1⟩ | exact ⟨(hb3.cell (p := ⟨w.heap.size, 0, none⟩) hlt2).trans hx0, (hb3.cell (p := ⟨w.heap.size, 1, none⟩) hlt2).trans hx1⟩)
    (first | (go_at_call 20; refine (shown07_any _).mono ?_; rintro e w3 ⟨rfl, hb3⟩) | (go_at_call 23; refine (words_any _ at2 l _ (Rd.below HR2.out (bthen HB1.drew hb3)) hm1 hm2 (by omega)).mono ?_; rintro e w4 ⟨va, rfl, hoa, hb4'⟩; have hb4 := bthen hb3 hb4'; clear hb4'; obtain ⟨A3, c3, hva⟩ := Kd.N_slice hoa; subst hva) | (go_at_call 27; refine (rwords_any _ at2 l _ (Rd.below HR2.out (bthen HB1.drew hb4)) hm1 hm2 (by omega)).mono ?_; rintro e w5 ⟨va, rfl, hoc, hb5'⟩; have hb5 := bthen hb4 hb5'; obtain ⟨A5, c5, hva⟩ := Kd.N_slice hoc; subst hva; have hoa5 := hoa.below hb5'; clear hb5') | (go_at_call 25; refine (sameL_any _ _ _ _ hoa5.rd hoc.rd).mono ?_; rintro e w6 ⟨rfl, hb6'⟩; have hb6 := bthen hb5 hb6'; clear hb6') | (go_at_call 28; refine (bare_any _ at2 l _ (Rd.below HR2.out (bthen HB1.drew hb6)) hm1 hm2 (by omega)).mono ?_; rintro e w7 ⟨rfl, hb7'⟩; have hb7 := bthen hb6 hb7'; clear hb7') | (go_at_call 29; refine (rbare_any _ at2 l _ (Rd.below HR2.out (bthen HB1.drew hb7)) hm1 hm2 (by omega)).mono ?_; rintro e w8 ⟨rfl, hb8'⟩; have hb8 := bthen hb7 hb8'; clear hb8'))
  go_wp2
  go_ret
  exact ⟨rfl, bthen HB1.drew hb8⟩
end Go.Proofs.Ytjogbgiknnfinaa
