import Derived.Test.YtjdcejbblcbjpaaDoorText8
import Derived.Test.YtjdcejbblcbjpaaDoorPlainUtf
import Derived.Test.YtjdcejbblcbjpaaDoorAuJ
import Derived.Lib.IndexEntry
import Derived.Lib.Bytealg
/-! bytes.IndexAny, bytes.ContainsAny at the four blanks. -/
set_option linter.unusedSimpArgs false
set_option linter.unusedVariables false
namespace Go.Proofs.YtjdcejbblcbjpaaDoor
open Go.RowKit Go.Proofs.YtjdcejbblcbjpaaDoorW.PrintWords Go.Proofs.YtjdcejbblcbjpaaDoorW.PrintLast Go.Proofs.YtjdcejbblcbjpaaDoorW.PrintMore

/-- The tables of the library's that the text reads. -/
structure Tab3 (w : World) : Prop where
  t : Tabs w
  u : Lib.Utf8Tabs (Tryd.lays732_ren.g 2) (Tryd.lays732_ren.g 3) w
  m : ∃ m, w.cell? ⟨0, 0, none⟩ = some (.int .i64 m)
theorem cell_below {w w' : World} (hb : Below w.heap.size w w') {p : Addr} {x : Value} (h : w.cell? p = some x) : w'.cell? p = some x := by
  rw [hb.cell (by
    rcases Nat.lt_or_ge p.block w.heap.size with h1 | h1
    · exact h1
    · have : w.heap[p.block]? = none := by simp; exact h1
      simp [World.cell?, this] at h)]
  exact h
theorem Tab3.below {w w' : World} (h : Tab3 w) (hb : Below w.heap.size w w') : Tab3 w' :=
  ⟨h.t.below hb, ⟨fun c hc => cell_below hb (h.u.1 c hc), fun i hi => ⟨cell_below hb (h.u.2 i hi).1, cell_below hb (h.u.2 i hi).2⟩⟩, let ⟨m, hm⟩ := h.m; ⟨m, cell_below hb hm⟩⟩
/-- is it a blank? -/
def Pl.bl (c : UInt8) : Bool := c == 32 || c == 9 || c == 13 || c == 10
def Pl.bls : List UInt8 := [32, 9, 13, 10]
theorem Pl.bl_idx (c : UInt8) : (0 ≤ Lib.indexByte Pl.bls c) ↔ Pl.bl c = true := by
  have := Lib.contains_iff_indexByte Pl.bls c
  have h2 : Pl.bls.contains c = Pl.bl c := by
    simp [Pl.bls, Pl.bl, Bool.or_assoc]
    rfl
  rw [h2] at this
  rw [this]
  simp
theorem Pl.bl_high {c : UInt8} (h : 128 ≤ c.toNat) : Pl.bl c = false := by
  have h1 : c ≠ 32 := fun e => by subst e; simp at h
  have h2 : c ≠ 9 := fun e => by subst e; simp at h
  have h3 : c ≠ 13 := fun e => by subst e; simp at h
  have h4 : c ≠ 10 := fun e => by subst e; simp at h
  simp [Pl.bl, h1, h2, h3, h4]
/-- What a rune read off bytes is that begin beyond ASCII. -/
structure RuneOf (l : List UInt8) (r n : Nat) : Prop where
  n1 : 1 ≤ n
  nl : n ≤ l.length
  n4 : n ≤ 4
  r1 : 128 ≤ r
  r2 : r ≤ 1114111
  hi : ∀ j, j < n → 128 ≤ (l.getD j 0).toNat
  e : r ≠ 65533 → 2 ≤ n ∧ (Utf8.encode (r : Int)).size = n ∧ Utf8.valid (r : Int) = true
theorem get_at' (l : List UInt8) (j : Nat) (h : j < l.length) : (⟨l.toArray⟩ : ByteArray).get! j = l.getD j 0 := by
  simp [ByteArray.get!, List.getD, h]
/-- Bytes, one at least: a plain address. -/
theorem rd_plain {v : Value} {l : List UInt8} {w : World} (hv : Rd kb w v l) (hp : 0 < l.length) : ∃ b off c, v = .slice (some ⟨b, off, none⟩) l.length c ∧ l.length ≤ c ∧ ∀ j, j < l.length → w.cell? ⟨b, off + j, none⟩ = some (.int .u8 ((l.getD j 0).toNat : Int)) := by
  obtain ⟨A, c, rfl, hc, hF⟩ := hv
  obtain ⟨ad, rfl, h0⟩ := kb_cell hF 0 hp
  obtain ⟨b, off, sp⟩ := ad
  have hsp : sp = none := by
    rcases sp with _ | x
    · rfl
    · exfalso
      unfold World.cell? Addr.add at h0
      split at h0 <;> simp at h0
  subst hsp
  refine ⟨b, off, c, rfl, hc, fun j hj => ?_⟩
  have := kb_cell' hF j hj
  rw [Lib.add_plain2] at this
  exact this
theorem decode_any (v : Value) (l : List UInt8) (w : World) (hv : Rd kb w v l) (ht : Tab3 w) (hp : 0 < l.length) (h128 : 128 ≤ (l.getD 0 0).toNat) :
    Calls Tryd.prog 51 #[v] w fun e w' => ∃ r n : Nat, e = .returned (.tuple #[.int .i32 (r : Int), .int .i64 (n : Int)]) ∧ RuneOf l r n ∧ Below w.heap.size w w' := by
  obtain ⟨A, c, rfl, hc, hF⟩ := hv
  obtain ⟨ad, rfl, h0⟩ := kb_cell hF 0 hp
  obtain ⟨b, off, sp⟩ := ad
  have hsp : sp = none := by
    rcases sp with _ | x
    · rfl
    · exfalso
      unfold World.cell? Addr.add at h0
      split at h0 <;> simp at h0
  subst hsp
  have hcell : ∀ j, j < l.length → w.cell? ⟨b, off + j, none⟩ = some (.int .u8 ((⟨l.toArray⟩ : ByteArray).get! j).toNat) := fun j hj => by
    have := kb_cell' hF j hj
    rw [Lib.add_plain2] at this
    rw [this, get_at' l j hj]
  have hsz : (⟨l.toArray⟩ : ByteArray).size = l.length := by simp [ByteArray.size]
  have := Any7.utf8_DecodeRune Tryd.lays732 ⟨l.toArray⟩ b off c w ht.u (fun j hj => hcell j (by rw [hsz] at hj; exact hj))
  rw [hsz] at this
  refine this.mono ?_
  rintro e w' ⟨rfl, hb⟩
  have hd : Lib.decodeGo (⟨l.toArray⟩ : ByteArray) = Lib.decodeN l.length ((⟨l.toArray⟩ : ByteArray).get! 0).toNat ((⟨l.toArray⟩ : ByteArray).get! 1).toNat ((⟨l.toArray⟩ : ByteArray).get! 2).toNat ((⟨l.toArray⟩ : ByteArray).get! 3).toNat := by
    unfold Lib.decodeGo
    rw [hsz, if_neg (by omega), Lib.decode_at, hsz]
    rfl
  rw [hd]
  have hb0 : 128 ≤ ((⟨l.toArray⟩ : ByteArray).get! 0).toNat := by rw [get_at' l 0 hp]; exact h128
  obtain ⟨w1, w2, w4, r1, r2, b1, b2, b3, hx⟩ := Pl.decN_facts l.length ((⟨l.toArray⟩ : ByteArray).get! 0).toNat ((⟨l.toArray⟩ : ByteArray).get! 1).toNat ((⟨l.toArray⟩ : ByteArray).get! 2).toNat ((⟨l.toArray⟩ : ByteArray).get! 3).toNat hb0 hp
  refine ⟨_, _, rfl, ⟨w1, w2, w4, r1, r2, fun j hj => ?_, fun hne => ⟨(hx hne).1, Pl.enc_dec _ _ _ _ _ hb0 hp hne⟩⟩, hb⟩
  rcases (show j = 0 ∨ j = 1 ∨ j = 2 ∨ j = 3 by omega) with rfl | rfl | rfl | rfl
  · exact h128
  · have := b1 (by omega); rwa [get_at' l 1 (by omega)] at this
  · have := b2 (by omega); rwa [get_at' l 2 (by omega)] at this
  · have := b3 (by omega); rwa [get_at' l 3 (by omega)] at this
/-- A rune's text beyond ASCII stands nowhere in the blanks. -/
theorem enc_nowhere (r : Nat) (h1 : 128 ≤ r) (hv : Utf8.valid (r : Int) = true) : Lib.index Pl.bls (Utf8.encode (r : Int)).data.toList = -1 := by
  obtain ⟨s2, s4, hlast⟩ := encode_facts (r : Int) hv (by omega)
  obtain ⟨E, hE⟩ : ∃ E, (Utf8.encode (r : Int)) = E := ⟨_, rfl⟩
  rw [hE] at s2 s4 hlast ⊢
  have hm : ∀ x : UInt8, x ∈ Pl.bls → x.toNat < 128 := by
    intro x hx
    simp only [Pl.bls, List.mem_cons, List.not_mem_nil, or_false] at hx
    rcases hx with rfl | rfl | rfl | rfl <;> decide
  have hlen : E.data.toList.length = E.size := by rw [Array.length_toList]; rfl
  have hz : 128 ≤ (E.data.toList[E.size - 1]'(by omega)).toNat := by
    rw [Array.getElem_toList]
    exact hlast (by omega)
  have no : ∀ t : List UInt8, (∀ x ∈ t, x.toNat < 128) → E.data.toList.isPrefixOf t = false := by
    intro t ht
    rcases hp : E.data.toList.isPrefixOf t with _ | _
    · rfl
    · exfalso
      have hpre := List.isPrefixOf_iff_prefix.1 hp
      have hmem : (E.data.toList[E.size - 1]'(by omega)) ∈ t := hpre.subset (List.getElem_mem _)
      have := ht _ hmem
      omega
  have go : ∀ t : List UInt8, (∀ x ∈ t, x.toNat < 128) → Lib.index t E.data.toList = -1 := by
    intro t
    induction t with
    | nil =>
      intro _
      rw [Lib.index]
      have : E.data.toList.isEmpty = false := by
        rw [List.isEmpty_eq_false_iff]
        intro h
        rw [h] at hlen
        simp at hlen
        omega
      rw [this]
      rfl
    | cons x t ih =>
      intro ht
      rw [Lib.index, no _ ht, ih fun y hy => ht y (List.mem_cons_of_mem _ hy)]
      rfl
  exact go _ hm
end Go.Proofs.YtjdcejbblcbjpaaDoor
