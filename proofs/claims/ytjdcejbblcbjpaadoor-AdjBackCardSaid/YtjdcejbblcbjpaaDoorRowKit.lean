import Derived.Test.YtjdcejbblcbjpaaDoorBase
import Derived.ProofKit
import Derived.OpenShut
/-! Small lemmas for the rows. -/
namespace Go.Proofs.YtjdcejbblcbjpaaDoor
open Go.RowKit Go.Proofs.YtjdcejbblcbjpaaDoorW.PrintWords Go.Proofs.YtjdcejbblcbjpaaDoorW.PrintLast Go.Proofs.YtjdcejbblcbjpaaDoorW.PrintMore
theorem wf_u8 {n : Int} (h : (Lit.int .u8 n).wf = true) : 0 ≤ n ∧ n ≤ 255 := by
  have h2 : IntKind.min .u8 ≤ n ∧ n ≤ IntKind.max .u8 := by simpa [Lit.wf] using h
  have h3 : IntKind.min .u8 = 0 := by decide
  have h4 : IntKind.max .u8 = 255 := by decide
  rw [h3, h4] at h2
  exact h2
theorem wf_u16 {n : Int} (h : (Lit.int .u16 n).wf = true) : 0 ≤ n ∧ n ≤ 65535 := by
  have h2 : IntKind.min .u16 ≤ n ∧ n ≤ IntKind.max .u16 := by simpa [Lit.wf] using h
  have h3 : IntKind.min .u16 = 0 := by decide
  have h4 : IntKind.max .u16 = 65535 := by decide
  rw [h3, h4] at h2
  exact h2
theorem wf_u32 {n : Int} (h : (Lit.int .u32 n).wf = true) : 0 ≤ n ∧ n ≤ 4294967295 := by
  have h2 : IntKind.min .u32 ≤ n ∧ n ≤ IntKind.max .u32 := by simpa [Lit.wf] using h
  have h3 : IntKind.min .u32 = 0 := by decide
  have h4 : IntKind.max .u32 = 4294967295 := by decide
  rw [h3, h4] at h2
  exact h2
theorem wf_u64 {n : Int} (h : (Lit.int .u64 n).wf = true) : 0 ≤ n ∧ n ≤ 18446744073709551615 := by
  have h2 : IntKind.min .u64 ≤ n ∧ n ≤ IntKind.max .u64 := by simpa [Lit.wf] using h
  have h3 : IntKind.min .u64 = 0 := by decide
  have h4 : IntKind.max .u64 = 18446744073709551615 := by decide
  rw [h3, h4] at h2
  exact h2
theorem wf_i64 {n : Int} (h : (Lit.int .i64 n).wf = true) : -9223372036854775808 ≤ n ∧ n ≤ 9223372036854775807 := by
  have h2 : IntKind.min .i64 ≤ n ∧ n ≤ IntKind.max .i64 := by simpa [Lit.wf] using h
  have h3 : IntKind.min .i64 = -9223372036854775808 := by decide
  have h4 : IntKind.max .i64 = 9223372036854775807 := by decide
  rw [h3, h4] at h2
  exact h2
theorem row_rd {W : World} {x : Addr} {len cap : Nat} {zs : List Int} (hl : len ≤ cap) (hm : cap ≤ maxLen) (hz : zs.length = cap) (hc : ∀ i, i < zs.length → W.cell? (x.add i) = some (.int .u8 (zs.getD i 0))) (hw : ∀ n ∈ zs, (Lit.int .u8 n).wf = true) :
    ∃ bs : List UInt8, bs.length = len ∧ Rd kb W (.slice (some x) len cap) bs := by
  have hbl : ((zs.take len).map fun n => UInt8.ofNat n.toNat).length = len := by simp; omega
  refine ⟨(zs.take len).map fun n => UInt8.ofNat n.toNat, hbl, some x, cap, by rw [hbl], by rw [hbl]; exact hl, ?_⟩
  refine Kd.F_mono (ok := fun k => k < W.heap.size) (Kd.C_F Kd.heap_scalar ⟨rfl, by rw [hbl]; unfold maxLen at hm; omega, fun hp => ⟨x, rfl, fun j p hp => ?_⟩⟩) (fun _ _ => trivial)
  obtain ⟨hj, hp'⟩ := List.getElem?_eq_some_iff.1 hp
  rw [hbl] at hj
  refine ⟨[.int .u8 (p.toNat : Int)], rfl, rfl, fun i u hu => ?_⟩
  rcases i with _ | i
  · simp only [List.getElem?_cons_zero, Option.some.injEq] at hu
    subst hu
    have h1 := hc j (by omega)
    have h2 := wf_u8 (hw (zs.getD j 0) (by
      rw [List.getD_eq_getElem?_getD, List.getElem?_eq_getElem (by omega)]
      exact List.getElem_mem _))
    simp only [kb, Kd.scalar, Nat.mul_one, Nat.add_zero]
    rw [h1]
    rw [List.getElem_map, List.getElem_take] at hp'
    rw [List.getD_eq_getElem?_getD, List.getElem?_eq_getElem (by omega)] at h2 ⊢
    simp only [Option.getD_some] at h2 ⊢
    rw [← hp']
    congr 2
    simp
    omega
  · simp at hu
end Go.Proofs.YtjdcejbblcbjpaaDoor
