import Derived.Test.YtjdcejbblcbjpaaDoorAWord
import Derived.Test.YtjdcejbblcbjpaaDoorRowKit
import Derived.Lib.Join
/-! bytes.Join of words by one blank. -/
set_option linter.unusedSimpArgs false
set_option linter.unusedVariables false
namespace Go.Proofs.YtjdcejbblcbjpaaDoor
open Go.RowKit Go.Proofs.YtjdcejbblcbjpaaDoorW.PrintWords Go.Proofs.YtjdcejbblcbjpaaDoorW.PrintLast Go.Proofs.YtjdcejbblcbjpaaDoorW.PrintMore

/-- The rows of a row of bytes. -/
theorem rows_get {w : World} {A : Option Addr} {n : Nat} {xs : List (List UInt8)} {ok : Nat → Prop} (h : Kd.F kBytes w ok A n xs) (i : Nat) (x : List UInt8) (hx : xs[i]? = some x) : ∃ ad A2 c2, A = some ad ∧ w.cell? (ad.add i) = some (.slice A2 x.length c2) ∧ Kd.V kb 0 w 0 ok (.slice A2 x.length c2) x := by
  obtain ⟨ad, cs, rfl, hK, hc⟩ := row_get h i x hx
  obtain ⟨A2, c2, rfl, hV⟩ := bytes_open hK
  have e0 := hc 0 _ rfl
  exact ⟨ad, A2, c2, rfl, by simpa [kBytes, Kd.slice] using e0, hV⟩
theorem list_of' {α : Type} (n : Nat) : ∀ (P : Nat → α → Prop), (∀ i, i < n → ∃ x, P i x) → ∃ l : List α, l.length = n ∧ ∀ (i : Nat) (x : α), l[i]? = some x → P i x := by
  induction n with
  | zero => exact fun P h => ⟨[], rfl, fun i x hx => by simp at hx⟩
  | succ n ih =>
    intro P h
    obtain ⟨x0, h0⟩ := h 0 (by omega)
    obtain ⟨l, hl, hp⟩ := ih (fun i => P (i + 1)) (fun i hi => h (i + 1) (by omega))
    refine ⟨x0 :: l, by simp [hl], fun i x hx => ?_⟩
    rcases i with _ | i
    · simp only [List.getElem?_cons_zero, Option.some.injEq] at hx
      subst hx
      exact h0
    · exact hp i x (by simpa using hx)
/-- Bytes as they lie are bytes that are read. -/
theorem rd_of_cells {W : World} {x : Addr} {len cap : Nat} {zs : List Int} (hl : len ≤ cap) (hm : cap ≤ maxLen) (hz : zs.length = cap) (hc : ∀ i, i < zs.length → W.cell? (x.add i) = some (.int .u8 (zs.getD i 0))) (hw : ∀ n ∈ zs, 0 ≤ n ∧ n < 256) :
    Rd kb W (.slice (some x) len cap) ((zs.take len).map fun n => UInt8.ofNat n.toNat) := by
  have hbl : ((zs.take len).map fun n => UInt8.ofNat n.toNat).length = len := by simp; omega
  refine ⟨some x, cap, by rw [hbl], by rw [hbl]; exact hl, ?_⟩
  refine Kd.F_mono (ok := fun k => k < W.heap.size) (Kd.C_F Kd.heap_scalar ⟨rfl, by rw [hbl]; unfold maxLen at hm; omega, fun hp => ⟨x, rfl, fun j p hp => ?_⟩⟩) (fun _ _ => trivial)
  obtain ⟨hj, hp'⟩ := List.getElem?_eq_some_iff.1 hp
  rw [hbl] at hj
  refine ⟨[.int .u8 (p.toNat : Int)], rfl, rfl, fun i u hu => ?_⟩
  rcases i with _ | i
  · simp only [List.getElem?_cons_zero, Option.some.injEq] at hu
    subst hu
    have h1 := hc j (by omega)
    have h2 := hw (zs.getD j 0) (by
      rw [List.getD_eq_getElem?_getD, List.getElem?_eq_getElem (by omega)]
      exact List.getElem_mem _)
    simp only [kb, Kd.scalar, Nat.mul_one, Nat.add_zero]
    rw [h1]
    rw [List.getElem_map, List.getElem_take] at hp'
    rw [List.getD_eq_getElem?_getD, List.getElem?_eq_getElem (by omega)] at h2 ⊢
    simp only [Option.getD_some] at h2 ⊢
    rw [← hp']
    congr 2
    simp
    omega
  · simp at hu
theorem fresh_rd {B : Nat} {w : World} {v : Value} {l : List UInt8} (h : Lib.FreshBytes B w v l) : Rd kb w v l := by
  obtain ⟨g, cap, zs, rfl, _, hl, hm, hz, hr, hb, hc, _⟩ := h
  have := rd_of_cells (W := w) (x := ⟨g, 0, none⟩) (len := l.length) (cap := cap) (zs := zs) hl hm hz (fun i hi => by rw [add_plain]; exact hc i (by omega)) hr
  rw [show ((zs.take l.length).map fun n => UInt8.ofNat n.toNat) = l from hb] at this
  exact this
theorem holds_of_rd {w : World} {v : Value} {l : List UInt8} (h : Rd kb w v l) : Lib.HoldsBytes w v l := by
  obtain ⟨A, c, rfl, hc, hF⟩ := h
  refine ⟨A, c, rfl, fun hA => ?_, fun a ha i x hx => ?_⟩
  · rcases l with _ | ⟨x, l⟩
    · rfl
    · obtain ⟨ad, he, _⟩ := kb_cell hF 0 (by simp)
      rw [hA] at he
      cases he
  · subst ha
    obtain ⟨hi, hx'⟩ := List.getElem?_eq_some_iff.1 hx
    have := kb_cell' hF i hi
    rw [this]
    simp [List.getD, hx]
theorem join_any (vw vs : Value) (ls : List (List UInt8)) (w : World) (hw : Rd kBytes w vw ls) (hs : Rd kb w vs [32]) (h1 : 1 ≤ ls.length) (hn : ls.length ≤ 21) (hl : ∀ l ∈ ls, 1 ≤ l.length ∧ l.length ≤ 32) :
    Calls Tryd.prog 15 #[vw, vs] w fun e w' => ∃ v', e = .returned v' ∧ Rd kb w' v' (Lib.join ls [32]) ∧ Below w.heap.size w w' := by
  obtain ⟨A, c, rfl, hc, hF⟩ := hw
  obtain ⟨x0, hx0⟩ : ∃ x, ls[0]? = some x := ⟨_, List.getElem?_eq_getElem (by omega)⟩
  obtain ⟨ad, A0, c0, rfl, hcell0, hV0⟩ := rows_get hF 0 x0 hx0
  obtain ⟨b, off, sp⟩ := ad
  have hsp : sp = none := by
    rcases sp with _ | x
    · rfl
    · exfalso
      unfold World.cell? Addr.add at hcell0
      split at hcell0 <;> simp at hcell0
  subst hsp
  have hparts : ∀ i, i < ls.length → ∃ v : Value, w.cell? ((⟨b, off, none⟩ : Addr).add i) = some v ∧ ∀ l, ls[i]? = some l → Lib.HoldsBytes w v l := fun i hi => by
    obtain ⟨ad, A2, c2, he, hcell, hV⟩ := rows_get hF i _ (List.getElem?_eq_getElem hi)
    injection he with he
    subst he
    refine ⟨_, hcell, fun l hl => ?_⟩
    rw [List.getElem?_eq_getElem hi] at hl
    injection hl with hl
    subst hl
    exact holds_of_rd (Kd.V_mono hV fun _ _ => trivial)
  obtain ⟨vls, hvl, hvp⟩ := list_of' ls.length (fun i v => w.cell? ((⟨b, off, none⟩ : Addr).add i) = some v ∧ ∀ l, ls[i]? = some l → Lib.HoldsBytes w v l) hparts
  have hlen : ∀ r : List (List UInt8), (∀ l ∈ r, l.length ≤ 32) → Lib.lens r ≤ 32 * r.length := by
    intro r
    induction r with
    | nil => simp [Lib.lens]
    | cons l r ih =>
      intro h
      have h2 := ih fun x hx => h x (List.mem_cons_of_mem _ hx)
      have h3 := h l List.mem_cons_self
      simp only [Lib.lens, List.map_cons, List.sum_cons, List.length_cons] at h2 ⊢
      omega
  by_cases h2 : 2 ≤ ls.length
  · have hL := hlen ls fun l hh => (hl l hh).2
    refine (Any.bytes_Join_many Tryd.laysJ14 b off ls.length c vls ls vs [32] w rfl h2 ⟨hvl, fun i v hv => (hvp i v hv).1, fun i v l hv hll => (hvp i v hv).2 l hll⟩ hc (holds_of_rd hs) (by omega) (by simp; omega)).mono ?_
    rintro e w' ⟨v', rfl, hf, hb⟩
    exact ⟨v', rfl, fresh_rd hf, hb⟩
  · obtain ⟨y, rfl⟩ : ∃ y, ls = [y] := List.length_eq_one_iff.1 (by omega)
    simp only [List.getElem?_cons_zero, Option.some.injEq] at hx0
    subst hx0
    have hy := hl y (by simp)
    obtain ⟨A3, c3, he, hc3, hF3⟩ := id hV0
    injection he with e1 e2 e3
    subst e1
    obtain ⟨ad2, rfl, _⟩ := kb_cell hF3 0 (by omega)
    rw [Lib.add_plain2, Nat.add_zero] at hcell0
    refine (Any.bytes_Join_one Tryd.laysJ14 b off c ad2 c0 y vs w hcell0 (fun i x hx => ?_) (by omega) (by omega)).mono ?_
    · obtain ⟨hi, hx'⟩ := List.getElem?_eq_some_iff.1 hx
      rw [kb_cell' hF3 i hi]
      simp [List.getD, hx]
    · rintro e w' ⟨v', rfl, hf, hb⟩
      rw [Lib.join_one]
      exact ⟨v', rfl, fresh_rd hf, hb⟩
end Go.Proofs.YtjdcejbblcbjpaaDoor
