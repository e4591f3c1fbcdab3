import Derived.Test.YtchbfeejpdfmhaaRParse
import Derived.Test.YtchbfeejpdfmhaaLaw9
/-! The law AdjEdge, walked. -/
set_option linter.unusedSimpArgs false
set_option linter.unusedVariables false
namespace Go.Proofs.Ytchbfeejpdfmhaa
open Go.RowKit Go.Proofs.YtchbfeejpdfmhaaW.PrintWords Go.Proofs.YtchbfeejpdfmhaaW.PrintLast Go.Proofs.YtchbfeejpdfmhaaW.PrintMore

theorem Pl.adj_edge {at_ : Int} {l : List UInt8} {num : Bool} (h : (Pl.words at_ l).length = 2) : Pl.adj at_ l num = [((Pl.edge at_ l num).two, (Pl.edge at_ l num).a, (Pl.edge at_ l num).b, (Pl.edge at_ l num).code, (Pl.edge at_ l num).at_)] := by
  unfold Pl.adj Pl.edge
  rcases hw : Pl.words at_ l with _ | ⟨x, _ | ⟨y, _ | ⟨z, r⟩⟩⟩
  · rw [hw] at h; simp at h
  · rw [hw] at h; simp at h
  · simp only [List.cons_ne_nil, if_false, Pl.badAt, Pl.labs, List.map_cons, List.map_nil]
    rcases h1 : Pl.label x.2 num with _ | a
    · simp [Pl.bad]
    · rcases h2 : Pl.label y.2 num with _ | b
      · simp [Pl.bad]
      · simp [Pl.mates]
  · rw [hw] at h; simp at h

set_option maxRecDepth 100000 in
set_option maxHeartbeats 4000000 in
theorem adjEdge_walk (v : Value) (b : List UInt8) (at_ : Int) (num : Bool) (w : World) (hv : Rd kb w v b) (_ : b.length ≤ 140737488351232) (ha : 0 ≤ at_) (hb : at_ ≤ 18446744073709551615) :
    Calls Try.prog 5 #[v, .int .u64 at_, .bool num] w fun e w' => e = .returned (.bool true) ∧ Below w.heap.size w w' := by
  have HR := Lib.hid hv
  obtain ⟨A0, c0, rfl, hc0, _⟩ := hv
  have hm1 : 0 ≤ at_ % 1099511627776 := by omega
  have hm2 : at_ % 1099511627776 ≤ 4611686018427387904 := by omega
  have hm3 : IntKind.i64.wrap (at_ % 1099511627776) = at_ % 1099511627776 := IntWalk.i64_in _ (by omega)
  clear hb
  go_enter Try.func5, Try.ntmps5
  obtain ⟨l, hll⟩ : ∃ l, b.take 300 = l := ⟨_, rfl⟩
  have hl2 : l.length ≤ 300 := by rw [← hll]; simp; omega
  have HLL := Lib.hid hll
  clear hll
  go_wp2_with (go_at_call 12; refine (shown09_any _).mono ?_; rintro e w3 ⟨rfl, hb3⟩; have HB3 := Lib.hid hb3; clear hb3)
  refine (few09_any _ b _ (Rd.below HR.out HB3.out)).mono ?_
  rintro e w1 ⟨v2, rfl, hr2, rfl⟩
  rw [HLL.out] at hr2
  obtain ⟨A2, c2, hv2⟩ := Kd.V_slice hr2
  subst hv2
  have HR2 := Lib.hid hr2
  clear hr2
  go_wp2_with fail
  refine calls_at fun W1 hW1 => ?_
  have HB1 : Below w3.heap.size w3 W1 := by rw [← hW1]; exact below_alloc (Below.refl _ _) _
  have KX := Blk.new w3 #[.int .i64 (at_ % 1099511627776), .slice A2 l.length c2] 26
  rw [hW1] at KX
  clear hW1
  obtain ⟨at2, hat2⟩ : ∃ x, at_ % 1099511627776 = x := ⟨_, rfl⟩
  rw [hat2] at KX hm1 hm2 hm3 ⊢
  clear hat2 hm3
  refine (words_any _ at2 l _ (Rd.below HR2.out HB1) hm1 hm2 (by omega)).mono ?_
  rintro e W2 ⟨v4, rfl, ho4, hb4⟩
  obtain ⟨A4, c4, hv4⟩ := Kd.N_slice ho4
  subst hv4
  have HB2 := bthen HB1 hb4
  replace KX := KX.belowW hb4
  have HB := Lib.hid (bthen HB3.out HB2)
  have HRl := Lib.hid (Rd.below HR2.out HB2)
  clear ho4 hb4 HB1
  have hlt := KX.lt
  obtain ⟨hx0, hx1⟩ : W2.cell? ⟨w3.heap.size, 0, none⟩ = some (.int .i64 at2) ∧ W2.cell? ⟨w3.heap.size, 1, none⟩ = some (.slice A2 l.length c2) := ⟨KX.cell.1 0, KX.cell.1 1⟩
  by_cases h2 : (Pl.words at2 l).length = 2
  · have HE := Lib.hid (Pl.adj_edge (num := num) h2)
    have hq : ((Pl.words at2 l).length : Int) = 2 := by omega
    obtain ⟨x, hx⟩ : ∃ x, Pl.edge at2 l num = x := ⟨_, rfl⟩
    rw [hx] at HE
    have HXE := Lib.hid hx
    clear h2 hx HB2
    go_wp2_with fail
    have hb0 := (Below.refl W2.heap.size W2).drew
    have hy0 := (hb0.cell (p := ⟨w3.heap.size, 0, none⟩) hlt).trans hx0
    have hy1 := (hb0.cell (p := ⟨w3.heap.size, 1, none⟩) hlt).trans hx1
    go_region_held3 (fun W => W.cell? ⟨w3.heap.size, 0, none⟩ = some (.int .i64 at2) ∧ W.cell? ⟨w3.heap.size, 1, none⟩ = some (.slice A2 l.length c2)) (first | exact ⟨hy0, hy1⟩ | exact ⟨(hb6.cell (p := ⟨w3.heap.size, 0, none⟩) hlt).trans hx0, (hb6.cell (p := ⟨w3.heap.size, 1, none⟩) hlt).trans hx1⟩ | exact ⟨((below_alloc hb5 _).cell (p := ⟨w3.heap.size, 0, none⟩) hlt).trans hx0, ((below_alloc hb5 _).cell (p := ⟨w3.heap.size, 1, none⟩) hlt).trans hx1⟩ | exact ⟨(hb5.cell (p := ⟨w3.heap.size, 0, none⟩) hlt).trans hx0, (hb5.cell (p := ⟨w3.heap.size, 1, none⟩) hlt).trans hx1⟩ | exact ⟨(hb4.cell (p := ⟨w3.heap.size, 0, none⟩) hlt).trans hx0, (hb4.cell (p := ⟨w3.heap.size, 1, none⟩) hlt).trans hx1⟩)
      (first | (go_at_call 14; refine (aparse_any _ at2 l num _ (Rd.below HRl.out hb0) hm1 hm2 (by omega)).mono ?_; rintro e w4 ⟨va, rfl, hra, hb4'⟩; have hb4 := bthen hb0 hb4'; clear hb4'; rw [HE.out] at hra; obtain ⟨A3, c3, hva⟩ := Kd.V_slice hra; subst hva) | (go_at_call 17; refine (rparse_any _ at2 l num _ (Rd.below HRl.out hb4) hm1 hm2 (by omega)).mono ?_; rw [HXE.out]; rintro e w5 ⟨va, vb, rfl, hoc, hod, hb5'⟩; have hb5 := bthen hb4 hb5'; obtain ⟨A5, c5, hva⟩ := Kd.N_slice hoc; obtain ⟨A6, c6, hvb⟩ := Kd.N_slice hod; subst hva hvb; have hra5 := Rd.below hra hb5'; have hoc5 := hoc.rd; have hod5 := hod.rd; clear hb5' hoc hod) | (go_at_call 13; refine (sameAll_any _ _ _ _ (Rd.below hra5 (below_alloc (Below.refl _ _) _)) (item_one hoc5 hod5)).mono ?_; rintro e w6 ⟨rfl, hb6'⟩; have hb6 := bthen (below_alloc hb5 _) hb6'; clear hb6'))
    go_wp2
    go_ret
    exact ⟨rfl, bthen HB.out hb6⟩
  · have hq : (((Pl.words at2 l).length : Int) != 2) = true := by rw [bne_iff_ne]; omega
    clear h2 hx0 hx1
    go_wp2_with fail
    go_ret
    exact ⟨rfl, HB.out⟩
end Go.Proofs.Ytchbfeejpdfmhaa
