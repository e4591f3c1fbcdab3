import Derived.Test.YtjdcejbblcbjpaaDoorText8
import Derived.Test.YtjdcejbblcbjpaaDoorPlainUtf
import Derived.Test.YtjdcejbblcbjpaaDoorAuJ
import Derived.Lib.IndexEntry
import Derived.Lib.Bytealg
/-! bytes.IndexAny, bytes.ContainsAny at the four blanks. -/
set_option linter.unusedSimpArgs false
set_option linter.unusedVariables false
namespace Go.Proofs.YtjdcejbblcbjpaaDoor
open Go.RowKit Go.Proofs.YtjdcejbblcbjpaaDoorW.PrintWords Go.Proofs.YtjdcejbblcbjpaaDoorW.PrintLast Go.Proofs.YtjdcejbblcbjpaaDoorW.PrintMore

/-- The tables of the library's that the text reads. -/
structure Tab3 (w : World) : Prop where
  t : Tabs w
  u : Lib.Utf8Tabs (Tryd.lays732_ren.g 2) (Tryd.lays732_ren.g 3) w
  m : ∃ m, w.cell? ⟨0, 0, none⟩ = some (.int .i64 m)
theorem cell_below {w w' : World} (hb : Below w.heap.size w w') {p : Addr} {x : Value} (h : w.cell? p = some x) : w'.cell? p = some x := by
  rw [hb.cell (by
    rcases Nat.lt_or_ge p.block w.heap.size with h1 | h1
    · exact h1
    · have : w.heap[p.block]? = none := by simp; exact h1
      simp [World.cell?, this] at h)]
  exact h
theorem Tab3.below {w w' : World} (h : Tab3 w) (hb : Below w.heap.size w w') : Tab3 w' :=
  ⟨h.t.below hb, ⟨fun c hc => cell_below hb (h.u.1 c hc), fun i hi => ⟨cell_below hb (h.u.2 i hi).1, cell_below hb (h.u.2 i hi).2⟩⟩, let ⟨m, hm⟩ := h.m; ⟨m, cell_below hb hm⟩⟩
/-- is it a blank? -/
def Pl.bl (c : UInt8) : Bool := c == 32 || c == 9 || c == 13 || c == 10
def Pl.bls : List UInt8 := [32, 9, 13, 10]
theorem Pl.bl_idx (c : UInt8) : (0 ≤ Lib.indexByte Pl.bls c) ↔ Pl.bl c = true := by
  have := Lib.contains_iff_indexByte Pl.bls c
  have h2 : Pl.bls.contains c = Pl.bl c := by
    simp [Pl.bls, Pl.bl, Bool.or_assoc]
    rfl
  rw [h2] at this
  rw [this]
  simp
theorem Pl.bl_high {c : UInt8} (h : 128 ≤ c.toNat) : Pl.bl c = false := by
  have h1 : c ≠ 32 := fun e => by subst e; simp at h
  have h2 : c ≠ 9 := fun e => by subst e; simp at h
  have h3 : c ≠ 13 := fun e => by subst e; simp at h
  have h4 : c ≠ 10 := fun e => by subst e; simp at h
  simp [Pl.bl, h1, h2, h3, h4]
/-- What a rune read off bytes is that begin beyond ASCII. -/
structure RuneOf (l : List UInt8) (r n : Nat) : Prop where
  n1 : 1 ≤ n
  nl : n ≤ l.length
  n4 : n ≤ 4
  r1 : 128 ≤ r
  r2 : r ≤ 1114111
  hi : ∀ j, j < n → 128 ≤ (l.getD j 0).toNat
  e : r ≠ 65533 → 2 ≤ n ∧ (Utf8.encode (r : Int)).size = n ∧ Utf8.valid (r : Int) = true
theorem get_at' (l : List UInt8) (j : Nat) (h : j < l.length) : (⟨l.toArray⟩ : ByteArray).get! j = l.getD j 0 := by
  simp [ByteArray.get!, List.getD, h]
/-- Bytes, one at least: a plain address. -/
theorem rd_plain {v : Value} {l : List UInt8} {w : World} (hv : Rd kb w v l) (hp : 0 < l.length) : ∃ b off c, v = .slice (some ⟨b, off, none⟩) l.length c ∧ l.length ≤ c ∧ ∀ j, j < l.length → w.cell? ⟨b, off + j, none⟩ = some (.int .u8 ((l.getD j 0).toNat : Int)) := by
  obtain ⟨A, c, rfl, hc, hF⟩ := hv
  obtain ⟨ad, rfl, h0⟩ := kb_cell hF 0 hp
  obtain ⟨b, off, sp⟩ := ad
  have hsp : sp = none := by
    rcases sp with _ | x
    · rfl
    · exfalso
      unfold World.cell? Addr.add at h0
      split at h0 <;> simp at h0
  subst hsp
  refine ⟨b, off, c, rfl, hc, fun j hj => ?_⟩
  have := kb_cell' hF j hj
  rw [Lib.add_plain2] at this
  exact this
theorem decode_any (v : Value) (l : List UInt8) (w : World) (hv : Rd kb w v l) (ht : Tab3 w) (hp : 0 < l.length) (h128 : 128 ≤ (l.getD 0 0).toNat) :
    Calls Tryd.prog 51 #[v] w fun e w' => ∃ r n : Nat, e = .returned (.tuple #[.int .i32 (r : Int), .int .i64 (n : Int)]) ∧ RuneOf l r n ∧ Below w.heap.size w w' := by
  obtain ⟨A, c, rfl, hc, hF⟩ := hv
  obtain ⟨ad, rfl, h0⟩ := kb_cell hF 0 hp
  obtain ⟨b, off, sp⟩ := ad
  have hsp : sp = none := by
    rcases sp with _ | x
    · rfl
    · exfalso
      unfold World.cell? Addr.add at h0
      split at h0 <;> simp at h0
  subst hsp
  have hcell : ∀ j, j < l.length → w.cell? ⟨b, off + j, none⟩ = some (.int .u8 ((⟨l.toArray⟩ : ByteArray).get! j).toNat) := fun j hj => by
    have := kb_cell' hF j hj
    rw [Lib.add_plain2] at this
    rw [this, get_at' l j hj]
  have hsz : (⟨l.toArray⟩ : ByteArray).size = l.length := by simp [ByteArray.size]
  have := Any7.utf8_DecodeRune Tryd.lays732 ⟨l.toArray⟩ b off c w ht.u (fun j hj => hcell j (by rw [hsz] at hj; exact hj))
  rw [hsz] at this
  refine this.mono ?_
  rintro e w' ⟨rfl, hb⟩
  have hd : Lib.decodeGo (⟨l.toArray⟩ : ByteArray) = Lib.decodeN l.length ((⟨l.toArray⟩ : ByteArray).get! 0).toNat ((⟨l.toArray⟩ : ByteArray).get! 1).toNat ((⟨l.toArray⟩ : ByteArray).get! 2).toNat ((⟨l.toArray⟩ : ByteArray).get! 3).toNat := by
    unfold Lib.decodeGo
    rw [hsz, if_neg (by omega), Lib.decode_at, hsz]
    rfl
  rw [hd]
  have hb0 : 128 ≤ ((⟨l.toArray⟩ : ByteArray).get! 0).toNat := by rw [get_at' l 0 hp]; exact h128
  obtain ⟨w1, w2, w4, r1, r2, b1, b2, b3, hx⟩ := Pl.decN_facts l.length ((⟨l.toArray⟩ : ByteArray).get! 0).toNat ((⟨l.toArray⟩ : ByteArray).get! 1).toNat ((⟨l.toArray⟩ : ByteArray).get! 2).toNat ((⟨l.toArray⟩ : ByteArray).get! 3).toNat hb0 hp
  refine ⟨_, _, rfl, ⟨w1, w2, w4, r1, r2, fun j hj => ?_, fun hne => ⟨(hx hne).1, Pl.enc_dec _ _ _ _ _ hb0 hp hne⟩⟩, hb⟩
  rcases (show j = 0 ∨ j = 1 ∨ j = 2 ∨ j = 3 by omega) with rfl | rfl | rfl | rfl
  · exact h128
  · have := b1 (by omega); rwa [get_at' l 1 (by omega)] at this
  · have := b2 (by omega); rwa [get_at' l 2 (by omega)] at this
  · have := b3 (by omega); rwa [get_at' l 3 (by omega)] at this
/-- A rune's text beyond ASCII stands nowhere in the blanks. -/
theorem enc_nowhere (r : Nat) (h1 : 128 ≤ r) (hv : Utf8.valid (r : Int) = true) : Lib.index Pl.bls (Utf8.encode (r : Int)).data.toList = -1 := by
  obtain ⟨s2, s4, hlast⟩ := encode_facts (r : Int) hv (by omega)
  obtain ⟨E, hE⟩ : ∃ E, (Utf8.encode (r : Int)) = E := ⟨_, rfl⟩
  rw [hE] at s2 s4 hlast ⊢
  have hm : ∀ x : UInt8, x ∈ Pl.bls → x.toNat < 128 := by
    intro x hx
    simp only [Pl.bls, List.mem_cons, List.not_mem_nil, or_false] at hx
    rcases hx with rfl | rfl | rfl | rfl <;> decide
  have hlen : E.data.toList.length = E.size := by rw [Array.length_toList]; rfl
  have hz : 128 ≤ (E.data.toList[E.size - 1]'(by omega)).toNat := by
    rw [Array.getElem_toList]
    exact hlast (by omega)
  have no : ∀ t : List UInt8, (∀ x ∈ t, x.toNat < 128) → E.data.toList.isPrefixOf t = false := by
    intro t ht
    rcases hp : E.data.toList.isPrefixOf t with _ | _
    · rfl
    · exfalso
      have hpre := List.isPrefixOf_iff_prefix.1 hp
      have hmem : (E.data.toList[E.size - 1]'(by omega)) ∈ t := hpre.subset (List.getElem_mem _)
      have := ht _ hmem
      omega
  have go : ∀ t : List UInt8, (∀ x ∈ t, x.toNat < 128) → Lib.index t E.data.toList = -1 := by
    intro t
    induction t with
    | nil =>
      intro _
      rw [Lib.index]
      have : E.data.toList.isEmpty = false := by
        rw [List.isEmpty_eq_false_iff]
        intro h
        rw [h] at hlen
        simp at hlen
        omega
      rw [this]
      rfl
    | cons x t ih =>
      intro ht
      rw [Lib.index, no _ ht, ih fun y hy => ht y (List.mem_cons_of_mem _ hy)]
      rfl
  exact go _ hm
end Go.Proofs.YtjdcejbblcbjpaaDoor
/-! bytes.IndexAny, bytes.ContainsAny at the four blanks: the walks. -/
set_option linter.unusedSimpArgs false
set_option linter.unusedVariables false
namespace Go.Proofs.YtjdcejbblcbjpaaDoor
open Go.RowKit Go.Proofs.YtjdcejbblcbjpaaDoorW.PrintWords Go.Proofs.YtjdcejbblcbjpaaDoorW.PrintLast Go.Proofs.YtjdcejbblcbjpaaDoorW.PrintMore

def IdxSaid (l : List UInt8) (w : World) (e : Ending) (w' : World) : Prop := ∃ z : Int, e = .returned (.int .i64 z) ∧ (0 ≤ z ↔ l.any Pl.bl = true) ∧ Below w.heap.size w w'
theorem bls_at (i : Nat) (h : i < (⟨#[32, 9, 13, 10]⟩ : ByteArray).size) : ((⟨#[32, 9, 13, 10]⟩ : ByteArray)[i]'h).toNat < 128 := by
  have hall : ∀ k : Fin 4, ((#[32, 9, 13, 10] : Array UInt8)[k.val]'(k.isLt)).toNat < 128 := by decide
  exact hall ⟨i, h⟩
theorem below_iter {w w1 : World} (hb : Below w.heap.size w w1) (s : ByteArray) (p : Nat) : Below w.heap.size w (w1.iter s p) := below_alloc hb _

set_option maxRecDepth 100000 in
set_option maxHeartbeats 4000000 in
theorem indexany_one (v : Value) (c : UInt8) (w : World) (hv : Rd kb w v [c]) : Calls Tryd.prog 36 #[v, .string ⟨#[32, 9, 13, 10]⟩] w (IdxSaid [c] w) := by
  obtain ⟨ab, ao, cp, rfl, hc, h0⟩ := rd_plain hv (by simp)
  replace h0 : w.cell? ⟨ab, ao, none⟩ = some (.int .u8 (c.toNat : Int)) := h0 0 (by simp)
  have hc8 := c.toNat_lt
  obtain ⟨y, hy⟩ : ∃ y, c.toNat = y := ⟨_, rfl⟩
  rw [hy] at h0 hc8
  have HY := Lib.hid hy
  obtain ⟨z, hz⟩ : ∃ z, Lib.indexByte Pl.bls c = z := ⟨_, rfl⟩
  have HZ := Lib.hid hz
  clear hv hy hz
  go_enter Tryd.func36, Tryd.ntmps36
  by_cases h128 : 128 ≤ y
  · have h1 : (128 : Int) ≤ (y : Int) := by omega
    go_wp2_with fail
    go_loopw [5] (fun r wr => ∃ i : Nat, wr = w.iter ⟨#[32, 9, 13, 10]⟩ i ∧ Aside0 (i ≤ 4)) (fun r wr => 4 - wr.iterPos w.heap.size)
    case atStart => exact ⟨0, rfl, ⟨by omega⟩⟩
    case round =>
      obtain ⟨i, rfl, hi⟩ := hrel
      by_cases hlt : i < 4
      · have hsz : i < (⟨#[32, 9, 13, 10]⟩ : ByteArray).size := hlt
        have hnx := fun ty => run_next_ascii (P := Tryd.prog) w ⟨#[32, 9, 13, 10]⟩ i ty hsz (bls_at i hsz)
        have hx8 := bls_at i hsz
        obtain ⟨x, hx⟩ : ∃ x, ((⟨#[32, 9, 13, 10]⟩ : ByteArray)[i]'hsz).toNat = x := ⟨_, rfl⟩
        rw [hx] at hnx hx8
        have hne : ((x : Int) == 65533) = false := by rw [beq_eq_false_iff_ne]; omega
        clear hx
        go_wp2_with fail
        go_roundw
        case rel => exact ⟨i + 1, rfl, ⟨by omega⟩⟩
        case measure => simp; omega
      · obtain rfl : i = 4 := by have := hi.out; omega
        have hnx := fun ty => run_next_end (P := Tryd.prog) w ⟨#[32, 9, 13, 10]⟩ 4 ty (by decide)
        go_wp2_with fail
        go_ret
        refine ⟨-1, rfl, ⟨fun h => by omega, fun h => ?_⟩, below_iter (Below.refl _ _) _ _⟩
        simp only [List.any_cons, List.any_nil, Bool.or_false] at h
        rw [Pl.bl_high (by rw [HY.out]; exact h128)] at h
        cases h
  · have h1 : ¬ (128 : Int) ≤ (y : Int) := by omega
    go_wp2_with fail
    rw [run_callFunc_extern Tryd.func46 (by kernel_rfl) (by kernel_rfl) (by kernel_rfl) (e := Extern.BytealgIndexByte.indexByte) (by kernel_rfl), Lib.run_indexByteString]
    rw [show Lib.indexByte (⟨#[32, 9, 13, 10]⟩ : ByteArray).data.toList (y : Int).toNat.toUInt8 = z by rw [← HZ.out, Int.toNat_natCast, ← HY.out]; simp [Pl.bls]]
    simp only [Result.andThen]
    rw [Oper.upon_value]
    rcases hb : Pl.bl c with _ | _
    · have hz : ¬ (0 : Int) ≤ z := by rw [← HZ.out, Pl.bl_idx, hb]; simp
      go_wp2_with fail
      go_ret
      exact ⟨-1, rfl, ⟨fun h => by omega, fun h => by simp [hb] at h⟩, Below.refl _ _⟩
    · have hz : (0 : Int) ≤ z := by rw [← HZ.out, Pl.bl_idx, hb]
      go_wp2_with fail
      go_ret
      exact ⟨0, rfl, ⟨fun _ => by simp [hb], fun h => by omega⟩, Below.refl _ _⟩

theorem bls_hi (j : Nat) (b : UInt8) (h : (⟨#[32, 9, 13, 10]⟩ : ByteArray).data.toList[j]? = some b) : b.toNat < 128 := by
  have hm : b ∈ Pl.bls := List.mem_of_getElem? (show Pl.bls[j]? = some b from h)
  simp only [Pl.bls, List.mem_cons, List.not_mem_nil, or_false] at hm
  rcases hm with rfl | rfl | rfl | rfl <;> decide
theorem makeset_any (w : World) : Calls Tryd.prog 49 #[.string ⟨#[32, 9, 13, 10]⟩] w fun e w' => ∃ cs : Array Value, e = .returned (.tuple #[.agg cs, .bool true]) ∧ cs.size = 256 ∧ (∀ c : UInt8, cs[c.toNat]? = some (.bool (Pl.bl c))) ∧ cs.all (·.oneCell') = true ∧ Below w.heap.size w w' := by
  have hi : (Tryd.prog.info? 70).map (fun i => (i.zero, i.size)) = some (some (.agg (Array.replicate 256 (.bool false))), 256) := by kernel_rfl
  refine (Any.bytes_makeASCIISet Tryd.laysV11 (zero_of_info hi).1 (zero_of_info hi).2 ⟨#[32, 9, 13, 10]⟩ w (by decide) bls_hi).mono ?_
  rintro e w' ⟨rfl, rfl⟩
  refine ⟨_, rfl, Lib.setCells_size _, fun c => ?_, Lib.setCells_one _, below_alloc (Below.refl _ _) _⟩
  rw [Lib.setCells_at]
  congr 2
  have h2 : Pl.bls.contains c = Pl.bl c := by
    simp [Pl.bls, Pl.bl, Bool.or_assoc]
    rfl
  exact h2
theorem set_store {cs : Array Value} (hs : cs.size = 256) (h : cs.all (·.oneCell') = true) (W : World) : (storeCells ⟨W.heap.size, 0, none⟩ cs.toList).run Tryd.prog (W.alloc (.cells Tryd.zeroCells70 70)) = .ok () (W.alloc (.cells cs 70)) := by
  have hz : Tryd.zeroCells70.size = 256 := by kernel_rfl
  have := run_storeCells_from (P := Tryd.prog) W.heap.size 70 cs.toList 0 Tryd.zeroCells70 (W.alloc (.cells Tryd.zeroCells70 70)) (heap_alloc_new W _) (by simp; omega) (fun v hv => (Array.all_eq_true_iff_forall_mem.1 h) v (by simpa using hv))
  rw [show (List.take 0 Tryd.zeroCells70.toList ++ cs.toList).toArray = cs by simp, World.setRow_alloc_new] at this
  exact this
theorem any_take {l : List UInt8} {k : Nat} (h : k < l.length) (h1 : (l.take k).any Pl.bl = false) (h2 : Pl.bl (l.getD k 0) = false) : (l.take (k + 1)).any Pl.bl = false := by
  rw [List.take_add_one, List.any_append, h1]
  simp [List.getElem?_eq_getElem h]
  simpa [List.getD, h] using h2
theorem any_hit {l : List UInt8} {k : Nat} (h : k < l.length) (h2 : Pl.bl (l.getD k 0) = true) : l.any Pl.bl = true := by
  rw [List.any_eq_true]
  exact ⟨l[k], List.getElem_mem _, by simpa [List.getD, h] using h2⟩

theorem should_any (n : Int) (w : World) : Calls Tryd.prog 48 #[.int .i64 n] w fun e w' => e = .returned (.bool (decide (8 < n))) ∧ w = w' := by
  go_enter Tryd.func48, Tryd.ntmps48
  go_wp2
  go_ret
  exact ⟨rfl, rfl⟩
theorem sethas_any (b : Nat) (x : UInt8) (y : Bool) (w : World) (hc : w.cell? ⟨b, x.toNat, none⟩ = some (.bool y)) : Calls Tryd.prog 50 #[.pointer (some ⟨b, 0, none⟩), .int .u8 (x.toNat : Int)] w fun e w' => e = .returned (.bool y) ∧ w' = w :=
  Any.bytes_asciiSet_contains Tryd.laysV16 b x y w hc

set_option maxRecDepth 100000 in
set_option maxHeartbeats 4000000 in
theorem indexany_long (v : Value) (l : List UInt8) (w : World) (hv : Rd kb w v l) (hl : l.length ≤ 1048576) (h8 : 8 < l.length) : Calls Tryd.prog 36 #[v, .string ⟨#[32, 9, 13, 10]⟩] w (IdxSaid l w) := by
  have HV := Lib.hid hv
  obtain ⟨ab, ao, cp, rfl, hc, hcell⟩ := rd_plain hv (by omega)
  have HC := Lib.hid hcell
  clear hv hcell
  obtain ⟨n, hn⟩ : ∃ n : Nat, l.length = n := ⟨_, rfl⟩
  have HN := Lib.hid hn
  rw [hn] at hc hl h8 ⊢
  have hn1 : ((n : Int) == 1) = false := beq_eq_false_iff_ne.2 (by omega)
  have h8z : (8 : Int) < (n : Int) := by omega
  clear hn
  go_enter Tryd.func36, Tryd.ntmps36
  have hd8 : decide ((8 : Int) < (n : Int)) = true := decide_eq_true h8z
  go_wp2_with (first | (go_at_call 49; refine (makeset_any _).mono ?_; rintro e w1 ⟨cs, rfl, hsz, hcs, hone, hb1⟩; have hst := set_store hsz hone w1; have HB1 := Lib.hid hb1; have HCS := Lib.hid hcs; clear hcs hb1) | (go_at_call 48; refine (should_any _ _).mono ?_; rintro e w0 ⟨rfl, rfl⟩; rw [hd8]))
  refine wp_at fun W2 hW2 => ?_
  have HB2 := Lib.hid (show Below w.heap.size w W2 by rw [← hW2]; exact below_alloc HB1.out _)
  have HT := Lib.hid (show ∀ c : UInt8, W2.cell? ⟨w1.heap.size, c.toNat, none⟩ = some (.bool (Pl.bl c)) by
    intro c
    have K2 : Blk W2 w1.heap.size cs 70 := by rw [← hW2]; exact Blk.new _ _ _
    exact (K2.cell.1 c.toNat).trans (HCS.out c))
  clear hst hW2 hone hsz HB1 HCS
  go_loop [9, 10, 62] (fun a b i => ∃ k : Nat, i = .int .i64 (k : Int) ∧ Aside0 (k ≤ n) ∧ Aside0 ((l.take k).any Pl.bl = false)) (fun _ _ i => n - (intOf i).toNat)
  case atStart => exact ⟨0, rfl, ⟨by omega⟩, ⟨by simp⟩⟩
  case round =>
    obtain ⟨k, rfl, hk, hno⟩ := hrel
    by_cases hlt : k < n
    · have q0 : (0 : Int) ≤ (k : Int) := by omega
      have q1 : (k : Int) < (n : Int) := by omega
      have hkl : k < l.length := by rw [HN.out]; exact hlt
      obtain ⟨x, hx⟩ : ∃ x, l.getD k 0 = x := ⟨_, rfl⟩
      have hc1 : W2.cell? ⟨ab, ao + k, none⟩ = some (.int .u8 (x.toNat : Int)) := by rw [← hx]; exact cell_below HB2.out (HC.out k hkl)
      have HX := Lib.hid hx
      have hw1 : IntKind.i64.wrap ((k : Int) + 1) = (k : Int) + 1 := IntWalk.i64_in _ (by omega)
      have HKL := Lib.hid hkl
      clear hx hkl
      rcases hb : Pl.bl x with _ | _
      · have HT1 := HT.out x
        rw [hb] at HT1
        go_wp2_with (go_at_call 50; refine (sethas_any _ x _ _ HT1).mono ?_; rintro e w' ⟨rfl, rfl⟩)
        go_round
        case rel => exact ⟨k + 1, by go_num, ⟨by omega⟩, ⟨any_take HKL.out hno.out (by rw [HX.out]; exact hb)⟩⟩
        case measure => simp [intOf]; omega
      · have HT1 := HT.out x
        rw [hb] at HT1
        go_wp2_with (go_at_call 50; refine (sethas_any _ x _ _ HT1).mono ?_; rintro e w' ⟨rfl, rfl⟩)
        go_ret
        exact ⟨(k : Int), rfl, ⟨fun _ => any_hit HKL.out (by rw [HX.out]; exact hb), fun _ => q0⟩, HB2.out⟩
    · obtain rfl : k = n := by have := hk.out; omega
      go_wp2_with fail
      go_ret
      refine ⟨-1, rfl, ⟨fun h => by omega, fun h => ?_⟩, HB2.out⟩
      have := hno.out
      rw [List.take_of_length_le (by rw [HN.out]; exact Nat.le_refl _), h] at this
      cases this
end Go.Proofs.YtjdcejbblcbjpaaDoor
/-! bytes.IndexAny, bytes.ContainsAny at the four blanks: short texts, and all. -/
set_option linter.unusedSimpArgs false
set_option linter.unusedVariables false
namespace Go.Proofs.YtjdcejbblcbjpaaDoor
open Go.RowKit Go.Proofs.YtjdcejbblcbjpaaDoorW.PrintWords Go.Proofs.YtjdcejbblcbjpaaDoorW.PrintLast Go.Proofs.YtjdcejbblcbjpaaDoorW.PrintMore

theorem getD_drop' (l : List UInt8) (k j : Nat) : (l.drop k).getD j 0 = l.getD (k + j) 0 := by simp [List.getD]
theorem any_more {l : List UInt8} {k : Nat} (h1 : (l.take k).any Pl.bl = false) : ∀ m, k + m ≤ l.length → (∀ j, j < m → 128 ≤ ((l.drop k).getD j 0).toNat) → (l.take (k + m)).any Pl.bl = false
  | 0, _, _ => h1
  | m + 1, hm, h => any_take (k := k + m) (by omega) (any_more h1 m (by omega) fun j hj => h j (by omega)) (Pl.bl_high (by have := h m (by omega); rwa [getD_drop'] at this))
theorem enc_ne' (r : Nat) (h1 : 128 ≤ r) (hv : Utf8.valid (r : Int) = true) (h : ([32, 9, 13, 10] == (Utf8.encode (r : Int)).toList) = true) : False := by
  have h2 := enc_nowhere r h1 hv
  rw [Lib.toList_data] at h
  rw [← eq_of_beq h] at h2
  exact absurd h2 (by decide)

set_option maxRecDepth 100000 in
set_option maxHeartbeats 8000000 in
theorem indexany_short (v : Value) (l : List UInt8) (w : World) (hv : Rd kb w v l) (ht : Tab3 w) (h0 : 0 < l.length) (h1 : l.length ≠ 1) (h8 : l.length ≤ 8) : Calls Tryd.prog 36 #[v, .string ⟨#[32, 9, 13, 10]⟩] w (IdxSaid l w) := by
  have HV := Lib.hid hv
  have HT := Lib.hid ht
  obtain ⟨ab, ao, cp, rfl, hc, hcell⟩ := rd_plain hv h0
  have HC := Lib.hid hcell
  obtain ⟨A', c', he, hcc, hF⟩ := id hv
  injection he with e1 e2 e3
  subst e1 e3
  have HF := Lib.hid hF
  clear hv hcell ht hF e2 hcc
  obtain ⟨n, hn⟩ : ∃ n : Nat, l.length = n := ⟨_, rfl⟩
  have HN := Lib.hid hn
  rw [hn] at hc h0 h1 h8 ⊢
  have hn1 : ((n : Int) == 1) = false := beq_eq_false_iff_ne.2 (by omega)
  have hd8 : decide ((8 : Int) < (n : Int)) = false := decide_eq_false (by omega)
  clear hn
  go_enter Tryd.func36, Tryd.ntmps36
  go_wp2_with (go_at_call 48; refine (should_any _ _).mono ?_; rintro e w0 ⟨rfl, rfl⟩; rw [hd8])
  go_loopw [11, 12, 13, 15] (fun a i b d wr => ∃ k : Nat, i = .int .i64 (k : Int) ∧ Aside0 (k ≤ n) ∧ Aside0 ((l.take k).any Pl.bl = false) ∧ Aside0 (Below w.heap.size w wr)) (fun _ i _ _ _ => n - (intOf i).toNat)
  case atStart => exact ⟨0, rfl, ⟨by omega⟩, ⟨by simp⟩, ⟨Below.refl _ _⟩⟩
  case round =>
    obtain ⟨k, rfl, hk, hno, HB⟩ := hrel
    by_cases hlt : k < n
    · have q0 : (0 : Int) ≤ (k : Int) := by omega
      have q1 : (k : Int) < (n : Int) := by omega
      have hkl : k < l.length := by rw [HN.out]; exact hlt
      obtain ⟨c, hx⟩ : ∃ c, l.getD k 0 = c := ⟨_, rfl⟩
      have hc1 : wr.cell? ⟨ab, ao + k, none⟩ = some (.int .u8 (c.toNat : Int)) := by rw [← hx]; exact cell_below HB.out (HC.out k hkl)
      have hc8 := c.toNat_lt
      obtain ⟨x, hxn⟩ : ∃ x, c.toNat = x := ⟨_, rfl⟩
      rw [hxn] at hc1 hc8
      have HX := Lib.hid (⟨hx, hxn⟩ : l.getD k 0 = c ∧ c.toNat = x)
      have HKL := Lib.hid hkl
      obtain ⟨z, hz⟩ : ∃ z, Lib.indexByte Pl.bls c = z := ⟨_, rfl⟩
      have HZ := Lib.hid hz
      clear hx hxn hkl hz
      by_cases h128 : x < 128
      · have hw1 : IntKind.i64.wrap ((k : Int) + 1) = (k : Int) + 1 := IntWalk.i64_in _ (by omega)
        have hx1 : (x : Int) < 128 := by omega
        go_wp2_with fail
        rw [run_callFunc_extern Tryd.func46 (by kernel_rfl) (by kernel_rfl) (by kernel_rfl) (e := Extern.BytealgIndexByte.indexByte) (by kernel_rfl), Lib.run_indexByteString]
        rw [show Lib.indexByte (⟨#[32, 9, 13, 10]⟩ : ByteArray).data.toList (x : Int).toNat.toUInt8 = z by rw [← HZ.out, Int.toNat_natCast, ← HX.out.2]; simp [Pl.bls]]
        simp only [Result.andThen]
        rw [Oper.upon_value]
        rcases hb : Pl.bl c with _ | _
        · have hz : ¬ (0 : Int) ≤ z := by rw [← HZ.out, Pl.bl_idx, hb]; simp
          go_wp2_with fail
          go_roundw
          case rel => exact ⟨k + 1, by go_num, ⟨by omega⟩, ⟨any_take HKL.out hno.out (by rw [HX.out.1]; exact hb)⟩, HB⟩
          case measure => simp [intOf]; omega
        · have hz : (0 : Int) ≤ z := by rw [← HZ.out, Pl.bl_idx, hb]
          go_wp2_with fail
          go_ret
          exact ⟨(k : Int), rfl, ⟨fun _ => any_hit HKL.out (by rw [HX.out.1]; exact hb), fun _ => q0⟩, HB.out⟩
      · have hx1 : ¬ (x : Int) < 128 := by omega
        obtain ⟨A2, hfrom, hV2⟩ := byte_from HF.out (by rw [HN.out]; exact hc) k (by rw [HN.out]; omega)
        rw [HN.out] at hfrom hV2
        replace hfrom := hfrom .i64 (k : Int) rfl
        have HD := Lib.hid (Rd.below (Kd.V_mono hV2 fun _ _ => trivial) HB.out : Rd kb wr (.slice A2 (n - k) (cp - k)) (l.drop k))
        clear hV2
        go_wp2_with fail
        refine (decode_any _ (l.drop k) wr HD.out (HT.out.below HB.out) (by simp; have := HKL.out; omega) (by rw [getD_drop', Nat.add_zero, HX.out.1, HX.out.2]; omega)).mono ?_
        rintro e W5 ⟨r, m, rfl, hr, hb5⟩
        have HR := Lib.hid hr
        have HB5 := Lib.hid (bthen HB.out hb5)
        have r1 := hr.r1
        have r2 := hr.r2
        have m4 := hr.n4
        have HNO := Lib.hid (any_more hno.out m (by have := hr.nl; simp at this; have := HKL.out; omega) hr.hi)
        have hwm : IntKind.i64.wrap ((k : Int) + (m : Int)) = (k : Int) + (m : Int) := IntWalk.i64_in _ (by omega)
        clear hr hb5 hfrom
        by_cases hre : r = 65533
        · subst hre
          go_wp2_with fail
          go_loopw [15] (fun d wx => ∃ j : Nat, wx = W5.iter ⟨#[32, 9, 13, 10]⟩ j ∧ Aside0 (j ≤ 4)) (fun d wx => 4 - wx.iterPos W5.heap.size)
          case atStart => exact ⟨0, rfl, ⟨by omega⟩⟩
          case round =>
            obtain ⟨j, rfl, hj⟩ := hrel
            by_cases hjlt : j < 4
            · have hsz : j < (⟨#[32, 9, 13, 10]⟩ : ByteArray).size := hjlt
              have hnx := fun ty => run_next_ascii (P := Tryd.prog) W5 ⟨#[32, 9, 13, 10]⟩ j ty hsz (bls_at j hsz)
              have hx8 := bls_at j hsz
              obtain ⟨y, hy⟩ : ∃ y, ((⟨#[32, 9, 13, 10]⟩ : ByteArray)[j]'hsz).toNat = y := ⟨_, rfl⟩
              rw [hy] at hnx hx8
              have hne : ((65533 : Int) == (y : Int)) = false := by rw [beq_eq_false_iff_ne]; omega
              clear hy
              go_wp2_with fail
              go_roundw
              case rel => exact ⟨j + 1, rfl, ⟨by omega⟩⟩
              case measure => simp; omega
            · obtain rfl : j = 4 := by have := hj.out; omega
              have hnx := fun ty => run_next_end (P := Tryd.prog) W5 ⟨#[32, 9, 13, 10]⟩ 4 ty (by decide)
              go_wp2_with fail
              go_roundw
              case rel => exact ⟨k + m, by go_num, ⟨by have := HR.out.nl; simp at this; have := HN.out; omega⟩, ⟨HNO.out⟩, ⟨below_iter HB5.out _ _⟩⟩
              case measure => simp [intOf]; have := HR.out.n1; omega
        · have hne1 : ((r : Int) == 65533) = false := by rw [beq_eq_false_iff_ne]; omega
          have hE := HR.out.e hre
          have HE := Lib.hid hE
          by_cases hm4 : m = 4
          · subst hm4
            clear hE
            go_wp2_with fail
            · exfalso
              rename_i heq
              exact enc_ne' r r1 HE.out.2.2 heq
            · go_roundw
              case rel => exact ⟨k + 4, by go_num, ⟨by have := HR.out.nl; simp at this; have := HN.out; omega⟩, ⟨HNO.out⟩, ⟨HB5.out⟩⟩
              case measure => simp [intOf]; omega
          · have hq4 : ((4 : Int) == (m : Int)) = false := by rw [beq_eq_false_iff_ne]; omega
            clear hE
            obtain ⟨mx, hmx⟩ := (HT.out.below HB5.out).m
            by_cases hle : (m : Int) ≤ mx
            · go_wp2_with fail
              rw [run_callFunc_extern Tryd.func52 (by kernel_rfl) (by kernel_rfl) (by kernel_rfl) (e := Extern.BytealgIndex.index) (by kernel_rfl), Lib.run_indexString ⟨#[32, 9, 13, 10]⟩ (Utf8.encode (r : Int)) _ 0 mx (by kernel_rfl) hmx (by rw [HE.out.2.1]; exact HE.out.1) (by rw [HE.out.2.1]; exact hle) (by decide)]
              rw [show Lib.index (⟨#[32, 9, 13, 10]⟩ : ByteArray).data.toList (Utf8.encode (r : Int)).data.toList = -1 from enc_nowhere r r1 HE.out.2.2]
              simp only [Result.andThen]
              rw [Oper.upon_value]
              go_wp2_with fail
              go_roundw
              case rel => exact ⟨k + m, by go_num, ⟨by have := HR.out.nl; simp at this; have := HN.out; omega⟩, ⟨HNO.out⟩, ⟨HB5.out⟩⟩
              case measure => simp [intOf]; have := HR.out.n1; omega
            · go_wp2_with fail
              go_loopw [15] (fun d wx => ∃ j : Nat, wx = W5.iter ⟨#[32, 9, 13, 10]⟩ j ∧ Aside0 (j ≤ 4)) (fun d wx => 4 - wx.iterPos W5.heap.size)
              case atStart => exact ⟨0, rfl, ⟨by omega⟩⟩
              case round =>
                obtain ⟨j, rfl, hj⟩ := hrel
                by_cases hjlt : j < 4
                · have hsz : j < (⟨#[32, 9, 13, 10]⟩ : ByteArray).size := hjlt
                  have hnx := fun ty => run_next_ascii (P := Tryd.prog) W5 ⟨#[32, 9, 13, 10]⟩ j ty hsz (bls_at j hsz)
                  have hx8 := bls_at j hsz
                  obtain ⟨y, hy⟩ : ∃ y, ((⟨#[32, 9, 13, 10]⟩ : ByteArray)[j]'hsz).toNat = y := ⟨_, rfl⟩
                  rw [hy] at hnx hx8
                  have hne : ((r : Int) == (y : Int)) = false := by rw [beq_eq_false_iff_ne]; omega
                  clear hy
                  go_wp2_with fail
                  go_roundw
                  case rel => exact ⟨j + 1, rfl, ⟨by omega⟩⟩
                  case measure => simp; omega
                · obtain rfl : j = 4 := by have := hj.out; omega
                  have hnx := fun ty => run_next_end (P := Tryd.prog) W5 ⟨#[32, 9, 13, 10]⟩ 4 ty (by decide)
                  go_wp2_with fail
                  go_roundw
                  case rel => exact ⟨k + m, by go_num, ⟨by have := HR.out.nl; simp at this; have := HN.out; omega⟩, ⟨HNO.out⟩, ⟨below_iter HB5.out _ _⟩⟩
                  case measure => simp [intOf]; have := HR.out.n1; omega
    · obtain rfl : k = n := by have := hk.out; omega
      go_wp2_with fail
      go_ret
      refine ⟨-1, rfl, ⟨fun h => by omega, fun h => ?_⟩, HB.out⟩
      have := hno.out
      rw [List.take_of_length_le (by rw [HN.out]; exact Nat.le_refl _), h] at this
      cases this

theorem indexany_any (v : Value) (l : List UInt8) (w : World) (hv : Rd kb w v l) (ht : Tab3 w) (h0 : 0 < l.length) (hl : l.length ≤ 1048576) : Calls Tryd.prog 36 #[v, .string ⟨#[32, 9, 13, 10]⟩] w (IdxSaid l w) := by
  by_cases h1 : l.length = 1
  · match l, h1 with
    | [c], _ => exact indexany_one v c w hv
  · by_cases h8 : 8 < l.length
    · exact indexany_long v l w hv hl h8
    · exact indexany_short v l w hv ht h0 h1 (by omega)
theorem containsany_any (v : Value) (l : List UInt8) (w : World) (hv : Rd kb w v l) (ht : Tab3 w) (h0 : 0 < l.length) (hl : l.length ≤ 1048576) : Calls Tryd.prog 26 #[v, .string ⟨#[32, 9, 13, 10]⟩] w fun e w' => e = .returned (.bool (l.any Pl.bl)) ∧ Below w.heap.size w w' := by
  have HI := Lib.hid (indexany_any v l w hv ht h0 hl)
  go_enter Tryd.func26, Tryd.ntmps26
  go_wp2_with (go_at_call 36; refine HI.out.mono ?_; rintro e w1 ⟨z, rfl, hz, hb⟩; have HZ := Lib.hid hz; clear hz)
  go_ret
  refine ⟨?_, hb⟩
  have e1 : decide (0 ≤ z) = l.any Pl.bl := Bool.eq_iff_iff.2 ⟨fun h => HZ.out.1 (of_decide_eq_true h), fun h => decide_eq_true (HZ.out.2 h)⟩
  rw [← e1]
  rfl
end Go.Proofs.YtjdcejbblcbjpaaDoor
