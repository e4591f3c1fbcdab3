import Derived.Test.YtjdcejbblcbjpaaDoorIndexAny
/-! bytes.IndexAny, bytes.ContainsAny at the four blanks: the walks. -/
set_option linter.unusedSimpArgs false
set_option linter.unusedVariables false
namespace Go.Proofs.YtjdcejbblcbjpaaDoor
open Go.RowKit Go.Proofs.YtjdcejbblcbjpaaDoorW.PrintWords Go.Proofs.YtjdcejbblcbjpaaDoorW.PrintLast Go.Proofs.YtjdcejbblcbjpaaDoorW.PrintMore

def IdxSaid (l : List UInt8) (w : World) (e : Ending) (w' : World) : Prop := ∃ z : Int, e = .returned (.int .i64 z) ∧ (0 ≤ z ↔ l.any Pl.bl = true) ∧ Below w.heap.size w w'
theorem bls_at (i : Nat) (h : i < (⟨#[32, 9, 13, 10]⟩ : ByteArray).size) : ((⟨#[32, 9, 13, 10]⟩ : ByteArray)[i]'h).toNat < 128 := by
  have hall : ∀ k : Fin 4, ((#[32, 9, 13, 10] : Array UInt8)[k.val]'(k.isLt)).toNat < 128 := by decide
  exact hall ⟨i, h⟩
theorem below_iter {w w1 : World} (hb : Below w.heap.size w w1) (s : ByteArray) (p : Nat) : Below w.heap.size w (w1.iter s p) := below_alloc hb _

set_option maxRecDepth 100000 in
set_option maxHeartbeats 4000000 in
theorem indexany_one (v : Value) (c : UInt8) (w : World) (hv : Rd kb w v [c]) : Calls Tryd.prog 36 #[v, .string ⟨#[32, 9, 13, 10]⟩] w (IdxSaid [c] w) := by
  obtain ⟨ab, ao, cp, rfl, hc, h0⟩ := rd_plain hv (by simp)
  replace h0 : w.cell? ⟨ab, ao, none⟩ = some (.int .u8 (c.toNat : Int)) := h0 0 (by simp)
  have hc8 := c.toNat_lt
  obtain ⟨y, hy⟩ : ∃ y, c.toNat = y := ⟨_, rfl⟩
  rw [hy] at h0 hc8
  have HY := Lib.hid hy
  obtain ⟨z, hz⟩ : ∃ z, Lib.indexByte Pl.bls c = z := ⟨_, rfl⟩
  have HZ := Lib.hid hz
  clear hv hy hz
  go_enter Tryd.func36, Tryd.ntmps36
  by_cases h128 : 128 ≤ y
  · have h1 : (128 : Int) ≤ (y : Int) := by omega
    go_wp2_with fail
    go_loopw [5] (fun r wr => ∃ i : Nat, wr = w.iter ⟨#[32, 9, 13, 10]⟩ i ∧ Aside0 (i ≤ 4)) (fun r wr => 4 - wr.iterPos w.heap.size)
    case atStart => exact ⟨0, rfl, ⟨by omega⟩⟩
    case round =>
      obtain ⟨i, rfl, hi⟩ := hrel
      by_cases hlt : i < 4
      · have hsz : i < (⟨#[32, 9, 13, 10]⟩ : ByteArray).size := hlt
        have hnx := fun ty => run_next_ascii (P := Tryd.prog) w ⟨#[32, 9, 13, 10]⟩ i ty hsz (bls_at i hsz)
        have hx8 := bls_at i hsz
        obtain ⟨x, hx⟩ : ∃ x, ((⟨#[32, 9, 13, 10]⟩ : ByteArray)[i]'hsz).toNat = x := ⟨_, rfl⟩
        rw [hx] at hnx hx8
        have hne : ((x : Int) == 65533) = false := by rw [beq_eq_false_iff_ne]; omega
        clear hx
        go_wp2_with fail
        go_roundw
        case rel => exact ⟨i + 1, rfl, ⟨by omega⟩⟩
        case measure => simp; omega
      · obtain rfl : i = 4 := by have := hi.out; omega
        have hnx := fun ty => run_next_end (P := Tryd.prog) w ⟨#[32, 9, 13, 10]⟩ 4 ty (by decide)
        go_wp2_with fail
        go_ret
        refine ⟨-1, rfl, ⟨fun h => by omega, fun h => ?_⟩, below_iter (Below.refl _ _) _ _⟩
        simp only [List.any_cons, List.any_nil, Bool.or_false] at h
        rw [Pl.bl_high (by rw [HY.out]; exact h128)] at h
        cases h
  · have h1 : ¬ (128 : Int) ≤ (y : Int) := by omega
    go_wp2_with fail
    rw [run_callFunc_extern Tryd.func46 (by kernel_rfl) (by kernel_rfl) (by kernel_rfl) (e := Extern.BytealgIndexByte.indexByte) (by kernel_rfl), Lib.run_indexByteString]
    rw [show Lib.indexByte (⟨#[32, 9, 13, 10]⟩ : ByteArray).data.toList (y : Int).toNat.toUInt8 = z by rw [← HZ.out, Int.toNat_natCast, ← HY.out]; simp [Pl.bls]]
    simp only [Result.andThen]
    rw [Oper.upon_value]
    rcases hb : Pl.bl c with _ | _
    · have hz : ¬ (0 : Int) ≤ z := by rw [← HZ.out, Pl.bl_idx, hb]; simp
      go_wp2_with fail
      go_ret
      exact ⟨-1, rfl, ⟨fun h => by omega, fun h => by simp [hb] at h⟩, Below.refl _ _⟩
    · have hz : (0 : Int) ≤ z := by rw [← HZ.out, Pl.bl_idx, hb]
      go_wp2_with fail
      go_ret
      exact ⟨0, rfl, ⟨fun _ => by simp [hb], fun h => by omega⟩, Below.refl _ _⟩

theorem bls_hi (j : Nat) (b : UInt8) (h : (⟨#[32, 9, 13, 10]⟩ : ByteArray).data.toList[j]? = some b) : b.toNat < 128 := by
  have hm : b ∈ Pl.bls := List.mem_of_getElem? (show Pl.bls[j]? = some b from h)
  simp only [Pl.bls, List.mem_cons, List.not_mem_nil, or_false] at hm
  rcases hm with rfl | rfl | rfl | rfl <;> decide
theorem makeset_any (w : World) : Calls Tryd.prog 49 #[.string ⟨#[32, 9, 13, 10]⟩] w fun e w' => ∃ cs : Array Value, e = .returned (.tuple #[.agg cs, .bool true]) ∧ cs.size = 256 ∧ (∀ c : UInt8, cs[c.toNat]? = some (.bool (Pl.bl c))) ∧ cs.all (·.oneCell') = true ∧ Below w.heap.size w w' := by
  have hi : (Tryd.prog.info? 70).map (fun i => (i.zero, i.size)) = some (some (.agg (Array.replicate 256 (.bool false))), 256) := by kernel_rfl
  refine (Any.bytes_makeASCIISet Tryd.laysV11 (zero_of_info hi).1 (zero_of_info hi).2 ⟨#[32, 9, 13, 10]⟩ w (by decide) bls_hi).mono ?_
  rintro e w' ⟨rfl, rfl⟩
  refine ⟨_, rfl, Lib.setCells_size _, fun c => ?_, Lib.setCells_one _, below_alloc (Below.refl _ _) _⟩
  rw [Lib.setCells_at]
  congr 2
  have h2 : Pl.bls.contains c = Pl.bl c := by
    simp [Pl.bls, Pl.bl, Bool.or_assoc]
    rfl
  exact h2
theorem set_store {cs : Array Value} (hs : cs.size = 256) (h : cs.all (·.oneCell') = true) (W : World) : (storeCells ⟨W.heap.size, 0, none⟩ cs.toList).run Tryd.prog (W.alloc (.cells Tryd.zeroCells70 70)) = .ok () (W.alloc (.cells cs 70)) := by
  have hz : Tryd.zeroCells70.size = 256 := by kernel_rfl
  have := run_storeCells_from (P := Tryd.prog) W.heap.size 70 cs.toList 0 Tryd.zeroCells70 (W.alloc (.cells Tryd.zeroCells70 70)) (heap_alloc_new W _) (by simp; omega) (fun v hv => (Array.all_eq_true_iff_forall_mem.1 h) v (by simpa using hv))
  rw [show (List.take 0 Tryd.zeroCells70.toList ++ cs.toList).toArray = cs by simp, World.setRow_alloc_new] at this
  exact this
theorem any_take {l : List UInt8} {k : Nat} (h : k < l.length) (h1 : (l.take k).any Pl.bl = false) (h2 : Pl.bl (l.getD k 0) = false) : (l.take (k + 1)).any Pl.bl = false := by
  rw [List.take_add_one, List.any_append, h1]
  simp [List.getElem?_eq_getElem h]
  simpa [List.getD, h] using h2
theorem any_hit {l : List UInt8} {k : Nat} (h : k < l.length) (h2 : Pl.bl (l.getD k 0) = true) : l.any Pl.bl = true := by
  rw [List.any_eq_true]
  exact ⟨l[k], List.getElem_mem _, by simpa [List.getD, h] using h2⟩

theorem should_any (n : Int) (w : World) : Calls Tryd.prog 48 #[.int .i64 n] w fun e w' => e = .returned (.bool (decide (8 < n))) ∧ w = w' := by
  go_enter Tryd.func48, Tryd.ntmps48
  go_wp2
  go_ret
  exact ⟨rfl, rfl⟩
theorem sethas_any (b : Nat) (x : UInt8) (y : Bool) (w : World) (hc : w.cell? ⟨b, x.toNat, none⟩ = some (.bool y)) : Calls Tryd.prog 50 #[.pointer (some ⟨b, 0, none⟩), .int .u8 (x.toNat : Int)] w fun e w' => e = .returned (.bool y) ∧ w' = w :=
  Any.bytes_asciiSet_contains Tryd.laysV16 b x y w hc

set_option maxRecDepth 100000 in
set_option maxHeartbeats 4000000 in
theorem indexany_long (v : Value) (l : List UInt8) (w : World) (hv : Rd kb w v l) (hl : l.length ≤ 1048576) (h8 : 8 < l.length) : Calls Tryd.prog 36 #[v, .string ⟨#[32, 9, 13, 10]⟩] w (IdxSaid l w) := by
  have HV := Lib.hid hv
  obtain ⟨ab, ao, cp, rfl, hc, hcell⟩ := rd_plain hv (by omega)
  have HC := Lib.hid hcell
  clear hv hcell
  obtain ⟨n, hn⟩ : ∃ n : Nat, l.length = n := ⟨_, rfl⟩
  have HN := Lib.hid hn
  rw [hn] at hc hl h8 ⊢
  have hn1 : ((n : Int) == 1) = false := beq_eq_false_iff_ne.2 (by omega)
  have h8z : (8 : Int) < (n : Int) := by omega
  clear hn
  go_enter Tryd.func36, Tryd.ntmps36
  have hd8 : decide ((8 : Int) < (n : Int)) = true := decide_eq_true h8z
  go_wp2_with (first | (go_at_call 49; refine (makeset_any _).mono ?_; rintro e w1 ⟨cs, rfl, hsz, hcs, hone, hb1⟩; have hst := set_store hsz hone w1; have HB1 := Lib.hid hb1; have HCS := Lib.hid hcs; clear hcs hb1) | (go_at_call 48; refine (should_any _ _).mono ?_; rintro e w0 ⟨rfl, rfl⟩; rw [hd8]))
  refine wp_at fun W2 hW2 => ?_
  have HB2 := Lib.hid (show Below w.heap.size w W2 by rw [← hW2]; exact below_alloc HB1.out _)
  have HT := Lib.hid (show ∀ c : UInt8, W2.cell? ⟨w1.heap.size, c.toNat, none⟩ = some (.bool (Pl.bl c)) by
    intro c
    have K2 : Blk W2 w1.heap.size cs 70 := by rw [← hW2]; exact Blk.new _ _ _
    exact (K2.cell.1 c.toNat).trans (HCS.out c))
  clear hst hW2 hone hsz HB1 HCS
  go_loop [9, 10, 62] (fun a b i => ∃ k : Nat, i = .int .i64 (k : Int) ∧ Aside0 (k ≤ n) ∧ Aside0 ((l.take k).any Pl.bl = false)) (fun _ _ i => n - (intOf i).toNat)
  case atStart => exact ⟨0, rfl, ⟨by omega⟩, ⟨by simp⟩⟩
  case round =>
    obtain ⟨k, rfl, hk, hno⟩ := hrel
    by_cases hlt : k < n
    · have q0 : (0 : Int) ≤ (k : Int) := by omega
      have q1 : (k : Int) < (n : Int) := by omega
      have hkl : k < l.length := by rw [HN.out]; exact hlt
      obtain ⟨x, hx⟩ : ∃ x, l.getD k 0 = x := ⟨_, rfl⟩
      have hc1 : W2.cell? ⟨ab, ao + k, none⟩ = some (.int .u8 (x.toNat : Int)) := by rw [← hx]; exact cell_below HB2.out (HC.out k hkl)
      have HX := Lib.hid hx
      have hw1 : IntKind.i64.wrap ((k : Int) + 1) = (k : Int) + 1 := IntWalk.i64_in _ (by omega)
      have HKL := Lib.hid hkl
      clear hx hkl
      rcases hb : Pl.bl x with _ | _
      · have HT1 := HT.out x
        rw [hb] at HT1
        go_wp2_with (go_at_call 50; refine (sethas_any _ x _ _ HT1).mono ?_; rintro e w' ⟨rfl, rfl⟩)
        go_round
        case rel => exact ⟨k + 1, by go_num, ⟨by omega⟩, ⟨any_take HKL.out hno.out (by rw [HX.out]; exact hb)⟩⟩
        case measure => simp [intOf]; omega
      · have HT1 := HT.out x
        rw [hb] at HT1
        go_wp2_with (go_at_call 50; refine (sethas_any _ x _ _ HT1).mono ?_; rintro e w' ⟨rfl, rfl⟩)
        go_ret
        exact ⟨(k : Int), rfl, ⟨fun _ => any_hit HKL.out (by rw [HX.out]; exact hb), fun _ => q0⟩, HB2.out⟩
    · obtain rfl : k = n := by have := hk.out; omega
      go_wp2_with fail
      go_ret
      refine ⟨-1, rfl, ⟨fun h => by omega, fun h => ?_⟩, HB2.out⟩
      have := hno.out
      rw [List.take_of_length_le (by rw [HN.out]; exact Nat.le_refl _), h] at this
      cases this
end Go.Proofs.YtjdcejbblcbjpaaDoor
