import Derived.Test.YtjdcejbblcbjpaaDoorProg
import Derived.Below
import Derived.Deep.Draws
import Derived.Deep.AppendLies
import Derived.Maps.AppendAt
import Derived.OwnWalk
import Derived.Laws.BytesArg
import Derived.Laws.MakeOwn
import Derived.Laws.OwnMore
import Derived.Deep.OwnRows
import Derived.Tactics
import Derived.Lib.ConvBytes
import Derived.Laws.Slices
import Derived.WalkKit
import Derived.WalkSpells
import Derived.KernelRfl
import Derived.RowKit3
import Derived.Deep.LoopGhost
import Derived.Deep.QuietTactic
import Derived.BigQuiet
import Derived.WideLaws
import Derived.Deep.DeepCutAuto
import Derived.Deep.CutBlock
import Derived.Deep.RegionHeld3
import Derived.Laws.Rows
import Derived.Lib.AppendStr
import Derived.ArgAppend
import Derived.Laws.IdiomCopy
import Derived.OrdersHeld
import Derived.Laws.BitsLemmas
import Derived.RowKit
import Derived.Lib.Hide
import Derived.Lib.SlBytesConst
import Derived.Outline
import Derived.IntWalk
import Derived.Test.YtjdcejbblcbjpaaDoorWWords
import Derived.Test.YtjdcejbblcbjpaaDoorWLast
import Derived.Test.YtjdcejbblcbjpaaDoorWTab
import Derived.Test.YtjdcejbblcbjpaaDoorWFour
import Derived.Test.YtjdcejbblcbjpaaDoorWQPut
import Derived.Test.YtjdcejbblcbjpaaDoorWApart
import Derived.Test.YtjdcejbblcbjpaaDoorWArr
import Derived.Test.YtjdcejbblcbjpaaDoorWZeros
import Derived.Test.YtjdcejbblcbjpaaDoorWFoot
import Derived.Test.YtjdcejbblcbjpaaDoorWKept
import Derived.Test.YtjdcejbblcbjpaaDoorWShare
import Derived.Test.YtjdcejbblcbjpaaDoorWN
import Derived.Test.YtjdcejbblcbjpaaDoorWFootNe
import Derived.Test.YtjdcejbblcbjpaaDoorWAt
import Derived.Test.YtjdcejbblcbjpaaDoorWEqStruct
import Derived.Test.YtjdcejbblcbjpaaDoorWRepsOne
import Derived.Test.YtjdcejbblcbjpaaDoorWInv
import Derived.Test.YtjdcejbblcbjpaaDoorWInvWords
import Derived.Test.YtjdcejbblcbjpaaDoorWGuard
import Derived.Test.YtjdcejbblcbjpaaDoorWNEv
import Derived.Test.YtjdcejbblcbjpaaDoorWMore
/-! What all texts of this seat use: kinds of values, readable (Rd) and own (Own) slices. -/
namespace Go.Proofs.YtjdcejbblcbjpaaDoor
open Go.RowKit Go.Proofs.YtjdcejbblcbjpaaDoorW.PrintWords Go.Proofs.YtjdcejbblcbjpaaDoorW.PrintLast Go.Proofs.YtjdcejbblcbjpaaDoorW.PrintMore

theorem infoByte : (Tryd.prog.info? 5).map (fun i => (i.zero, i.size, i.bytes)) = some (some (.int .u8 0), 1, 1) := by kernel_rfl
theorem infoLine : (Tryd.prog.info? 33).map (fun i => (i.zero, i.size, i.bytes)) = some (some (.agg #[(.int .i64 0), (.slice none 0 0)]), 2, 32) := by kernel_rfl

theorem sizeItem : (Tryd.prog.info? 36).map (·.size) = some 5 := by kernel_rfl
theorem infoItem : (Tryd.prog.info? 36).map (fun i => (i.zero, i.size, i.bytes)) = some (some (.agg #[.bool false, .slice none 0 0, .slice none 0 0, .int .i64 0, .int .i64 0]), 5, 72) := by kernel_rfl
theorem field_code (a b c : Value) (d : Int) (e : Value) (W : World) : (Instr.field 36 (.agg #[a, b, c, .int .i64 d, e]) 3).run Tryd.prog W = .ok (.int .i64 d) W := by kernel_rfl
theorem sizeBytes : (Tryd.prog.info? 22).map (·.size) = some 1 := by kernel_rfl
/-- A byte's cell. -/
def kb : Kd UInt8 := Kd.scalar (fun b => Value.int .u8 (b.toNat : Int)) (fun _ => rfl)
/-- A line: where it begins, its bytes. -/
def kLine : Kd (Int × List UInt8) := Kd.pair (Kd.int .i64) (Kd.slice 5 kb)

section
variable {α : Type} {d : Kd α} {w W w1 W1 : World} {val val1 u : Value} {xs : List α} {e base b n c m : Nat} {A : Option Addr} {ok ok' : Nat → Prop}
/-- v reads as xs. -/
abbrev Rd (d : Kd α) (w : World) (val : Value) (xs : List α) : Prop := Kd.V d 0 w 0 (fun _ => True) val xs
/-- val is a row of the call's own (from block base on), and reads as xs; what it leads to lies from base on. -/
abbrev Own (d : Kd α) (e : Nat) (w : World) (base : Nat) (val : Value) (xs : List α) : Prop := Kd.N d e w base (fun k => base ≤ k) val xs
theorem Rd.below (h : Rd d w val xs) (hb : Below w.heap.size w w1) : Rd d w1 val xs := Kd.V_below h hb
theorem Rd.nil (d : Kd α) (w : World) : Rd d w (.slice none 0 0) [] := Kd.V_nil d 0 w 0 _
theorem Own.v (h : Own d e w base val xs) : Kd.V d 0 w 0 (fun k => base ≤ k) val xs := by
  obtain ⟨A, c, he, hl, hf⟩ := Kd.N_V (base' := 0) h
  exact ⟨A, c, he, hl, hf⟩
theorem Own.rd (h : Own d e w base val xs) : Rd d w val xs := Kd.V_mono h.v (fun _ _ => trivial)
theorem Own.nil (d : Kd α) (e : Nat) (w : World) (base : Nat) : Own d e w base (.slice none 0 0) [] := Kd.N_nil d e w base _
theorem Own.below (h : Own d e w base val xs) (hb : Below w.heap.size w w1) : Own d e w1 base val xs := Kd.N_below h hb
theorem Own.lower (h : Own d e w base val xs) (hb : b ≤ base) : Own d e w b val xs := Kd.N_lower (Kd.N_mono h (fun _ hk => Nat.le_trans hb hk)) hb
theorem Own.lt (h : Own d e w base val xs) : ∀ k, val.ownBlock = some k → k < w.heap.size := Kd.N_lt h
theorem Own.far (h : Own d e w base val xs) {p : Addr} (hp : p.block < base) (u : Value) : Own d e (w.setCell p u) base val xs := Kd.N_far h (fun k hk => by omega) u
theorem Own.alloc (h : Own d e w base val xs) (o : Obj) : Own d e (w.alloc o) base val xs := Kd.N_alloc h o
theorem Own.drew (h : Own d e w base val xs) : Own d e w.drew base val xs := Kd.N_drew h
theorem bthen (h : Below w.heap.size w w1) (k : Below w1.heap.size w1 W) : Below w.heap.size w W := below_step h k
theorem blow (h : Below b w w1) (hb : base ≤ b) : Below base w w1 := h.mono hb
end
theorem bcell {W w1 : World} (hb : Below W.heap.size W w1) : (∀ b o, b < W.heap.size → w1.cell? ⟨b, o, none⟩ = W.cell? ⟨b, o, none⟩) ∧ (∀ b o, b < W.heap.size → w1.frozen? ⟨b, o, none⟩ = W.frozen? ⟨b, o, none⟩) :=
  ⟨fun b o h => hb.cell (p := ⟨b, o, none⟩) h, fun b o h => hb.frozen (p := ⟨b, o, none⟩) h⟩
/-- At a call: the world under a name. -/
theorem calls_at {P : Program} {f : FuncId} {args : Array Value} {W : World} {Q : Ending → World → Prop} (h : ∀ W', W = W' → Calls P f args W' Q) : Calls P f args W Q := h W rfl
/-- At a piece of code: the world under a name. -/
theorem wp_at {P : Program} {c : Code} {Q : Exit → Act → World → Prop} {a : Act} {W : World} (h : ∀ W', W = W' → c.wp P Q a W') : c.wp P Q a W := h W rfl
/-- Block g is a row of cells cs, not frozen. -/
structure Blk (W : World) (g : Nat) (cs : Array Value) (t : TypeId) : Prop where
  out : W.heap[g]? = some (.cells cs t (0, 0))
theorem Blk.new (W : World) (cs : Array Value) (t : TypeId) : Blk (W.alloc (.cells cs t)) W.heap.size cs t := ⟨heap_alloc_new W _⟩
theorem Blk.lt {W : World} {g : Nat} {cs : Array Value} {t : TypeId} (h : Blk W g cs t) : g < W.heap.size := blk_lt h.out
theorem Blk.below {W W1 : World} {g : Nat} {cs : Array Value} {t : TypeId} {B : Nat} (h : Blk W g cs t) (hb : Below B W W1) (hg : g < B) : Blk W1 g cs t := ⟨(hb.block g hg).trans h.out⟩
theorem Blk.belowW {W W1 : World} {g : Nat} {cs : Array Value} {t : TypeId} (h : Blk W g cs t) (hb : Below W.heap.size W W1) : Blk W1 g cs t := h.below hb h.lt
theorem Blk.alloc {W : World} {g : Nat} {cs : Array Value} {t : TypeId} (h : Blk W g cs t) (o : Obj) : Blk (W.alloc o) g cs t := ⟨(Below.heap_alloc W o g h.lt).trans h.out⟩
theorem Blk.drew {W : World} {g : Nat} {cs : Array Value} {t : TypeId} (h : Blk W g cs t) : Blk W.drew g cs t := ⟨h.out⟩
theorem Blk.set {W : World} {g : Nat} {cs cs' : Array Value} {t : TypeId} (h : Blk W g cs t) (i : Nat) (u : Value) (e : cs.setIfInBounds i u = cs') : Blk (W.setCell ⟨g, i, none⟩ u) g cs' t := ⟨blk_put h.out i u e⟩
theorem Blk.far {W : World} {g : Nat} {cs : Array Value} {t : TypeId} (h : Blk W g cs t) {p : Addr} (hp : g ≠ p.block) (u : Value) : Blk (W.setCell p u) g cs t := ⟨blk_far h.out hp u⟩
theorem Blk.grown {W W1 : World} {g : Nat} {cs : Array Value} {t : TypeId} {row : Option Nat} (h : Blk W g cs t) (hg : W.grownBy W1 row) (hne : some g ≠ row) : Blk W1 g cs t := ⟨blk_grown h.out hg hne⟩
theorem Blk.cell {W : World} {g : Nat} {cs : Array Value} {t : TypeId} (h : Blk W g cs t) : (∀ i, W.cell? ⟨g, i, none⟩ = cs[i]?) ∧ (∀ i, W.frozen? ⟨g, i, none⟩ = false) := ⟨fun i => blk_cell h.out i, fun i => blk_frozen h.out i⟩
theorem bset {w W : World} (h : Below w.heap.size w W) {p : Addr} (hp : w.heap.size ≤ p.block) (u : Value) : Below w.heap.size w (W.setCell p u) := h.setCell hp u
/-- An element of a row that reads. -/
theorem row_get {α : Type} {d : Kd α} {w : World} {A : Option Addr} {n : Nat} {ok : Nat → Prop} {xs : List α} (h : Kd.F d w ok A n xs) (i : Nat) (x : α) (hx : xs[i]? = some x) : ∃ ad cs, A = some ad ∧ Kd.FK d w ok x cs ∧ ∀ j u, cs[j]? = some u → w.cell? (ad.add (i * d.sz + j)) = some u := by
  obtain ⟨hi, hx'⟩ := List.getElem?_eq_some_iff.1 hx
  obtain ⟨ad, c, he, _, hK, hc0, _⟩ := Kd.F_get h x (i : Int) (by omega) (by have := Kd.F_len h; omega)
  rw [Int.toNat_natCast] at hK hc0
  have e : xs.getD i x = x := by simp [List.getD, hx]
  rw [e] at hK
  exact ⟨ad, c, he, hK, hc0⟩
theorem u8_eq (c d : UInt8) : ((c.toNat : Int) = (d.toNat : Int)) ↔ c = d := ⟨fun h => UInt8.toNat_inj.1 (by omega), fun h => by rw [h]⟩
theorem u8_beq (c d : UInt8) : ((c.toNat : Int) == (d.toNat : Int)) = (c == d) := by
  rw [Bool.eq_iff_iff, beq_iff_eq, beq_iff_eq, u8_eq]
theorem kb_cell {w : World} {A : Option Addr} {n : Nat} {ok : Nat → Prop} {xs : List UInt8} (h : Kd.F kb w ok A n xs) (i : Nat) (hi : i < xs.length) : ∃ ad, A = some ad ∧ w.cell? (ad.add i) = some (.int .u8 ((xs.getD i 0).toNat : Int)) := by
  obtain ⟨ad, c, he, _, hK, hc0, _⟩ := Kd.F_get h 0 (i : Int) (by omega) (by have := Kd.F_len h; omega)
  have hk : c = [Value.int .u8 ((xs.getD ((i : Int).toNat) 0).toNat : Int)] := Kd.FK_now hK
  rw [Int.toNat_natCast] at hk
  subst hk
  exact ⟨ad, he, by have := hc0 0 _ rfl; simpa [kb, Kd.scalar] using this⟩
theorem kb_cell' {w : World} {A : Addr} {n : Nat} {ok : Nat → Prop} {xs : List UInt8} (h : Kd.F kb w ok (some A) n xs) (i : Nat) (hi : i < xs.length) : w.cell? (A.add i) = some (.int .u8 ((xs.getD i 0).toNat : Int)) := by
  obtain ⟨ad, he, hc⟩ := kb_cell h i hi
  injection he with he
  subst he
  exact hc
theorem line_FK {w : World} {ok : Nat → Prop} {vB : Value} {at_ : Int} {bs : List UInt8} (h : Kd.V kb 0 w 0 ok vB bs) : Kd.FK kLine w ok (at_, bs) [.int .i64 at_, vB] := by
  obtain ⟨A, c, rfl, hl, hF⟩ := h
  exact fun W' hW => ⟨[.int .i64 at_], [.slice A bs.length c], rfl, rfl, ⟨A, c, rfl, hl, hF W' hW⟩⟩
theorem line_open {w : World} {ok : Nat → Prop} {x : Int × List UInt8} {cs : List Value} (h : Kd.FK kLine w ok x cs) : ∃ vB, cs = [.int .i64 x.1, vB] ∧ Kd.V kb 0 w 0 ok vB x.2 := by
  obtain ⟨_, _, rfl, rfl, ⟨A, c, rfl, hl, _⟩⟩ := Kd.FK_now h
  refine ⟨_, rfl, A, c, rfl, hl, fun W' hW => ?_⟩
  obtain ⟨_, _, he, rfl, ⟨A', c', rfl, hl', hC⟩⟩ := h W' hW
  simp at he
  rw [he.1]
  exact hC

/-- x[lo:hi] of bytes. -/
theorem byte_cut {w : World} {A : Option Addr} {c : Nat} {xs : List UInt8} {ok : Nat → Prop} (h : Kd.F kb w ok A xs.length xs) (hc : xs.length ≤ c) (lo hi : Nat) (h1 : lo ≤ hi) (h2 : hi ≤ xs.length) :
    ∃ A2, (∀ (kl kh : IntKind) (l' h' : Int), l' = (lo : Int) → h' = (hi : Int) → ∀ W : World, (Instr.slice 22 (.slice A xs.length c) (some (.int kl l')) (some (.int kh h')) none).run Tryd.prog W = .ok (.slice A2 (hi - lo) (c - lo)) W) ∧ Kd.V kb 0 w 0 ok (.slice A2 (hi - lo) (c - lo)) ((xs.take hi).drop lo) := by
  have hF := Kd.F_mid (lo := lo) (hi := hi) h h1 h2 hc
  obtain ⟨i0, hi0, hzz⟩ := Option.map_eq_some_iff.1 infoByte
  simp only [Prod.mk.injEq] at hzz
  have hl : ((xs.take hi).drop lo).length = hi - lo := by simp; omega
  refine ⟨if c = lo then A else A.map (·.add (lo * kb.sz)), fun kl kh l' h' e1 e2 W => ?_, ?_⟩
  · have := cut_mid (P := Tryd.prog) 22 5 kl kh Tryd.underlying22 hi0 kb.sz hzz.2.1 A xs.length c l' h' (by omega) (by omega) (by omega) hc W
    subst e1 e2
    simp only [Int.toNat_natCast] at this
    exact this
  · rw [← hl]
    exact ⟨_, _, rfl, by rw [hl]; omega, hF⟩
/-- x[:hi], of whatever row. -/
theorem row_to {α : Type} {d : Kd α} (t e : TypeId) {i : TypeInfo} (ht : Tryd.prog.underlying t = some (.slice e)) (hi : Tryd.prog.info? e = some i) {w : World} {A : Option Addr} {c : Nat} {xs : List α} {ok : Nat → Prop} (h : Kd.F d w ok A xs.length xs) (hc : xs.length ≤ c) (k : Nat) (hk : k ≤ xs.length) :
    (∀ (kh : IntKind) (h' : Int), h' = (k : Int) → ∀ W : World, (Instr.slice t (.slice A xs.length c) none (some (.int kh h')) none).run Tryd.prog W = .ok (.slice A k c) W) ∧ Kd.V d 0 w 0 ok (.slice A k c) (xs.take k) := by
  have hl : (xs.take k).length = k := by simp; omega
  refine ⟨fun kh h' e2 W => ?_, ?_⟩
  · have := cut_to (P := Tryd.prog) t e kh ht hi A xs.length c h' (by omega) (by omega) hc W
    subst e2
    simpa using this
  · have := Kd.F_take h hk
    exact ⟨A, c, by rw [hl], by omega, this⟩
theorem byte_to {w : World} {A : Option Addr} {c : Nat} {xs : List UInt8} {ok : Nat → Prop} (h : Kd.F kb w ok A xs.length xs) (hc : xs.length ≤ c) (k : Nat) (hk : k ≤ xs.length) :
    (∀ (kh : IntKind) (h' : Int), h' = (k : Int) → ∀ W : World, (Instr.slice 22 (.slice A xs.length c) none (some (.int kh h')) none).run Tryd.prog W = .ok (.slice A k c) W) ∧ Kd.V kb 0 w 0 ok (.slice A k c) (xs.take k) := by
  obtain ⟨i0, hi0, _⟩ := Option.map_eq_some_iff.1 infoByte
  exact row_to 22 5 Tryd.underlying22 hi0 h hc k hk
/-- x[lo:], of bytes. -/
theorem byte_from {w : World} {A : Option Addr} {c : Nat} {xs : List UInt8} {ok : Nat → Prop} (h : Kd.F kb w ok A xs.length xs) (hc : xs.length ≤ c) (k : Nat) (hk : k ≤ xs.length) :
    ∃ A2, (∀ (kl : IntKind) (l' : Int), l' = (k : Int) → ∀ W : World, (Instr.slice 22 (.slice A xs.length c) (some (.int kl l')) none none).run Tryd.prog W = .ok (.slice A2 (xs.length - k) (c - k)) W) ∧ Kd.V kb 0 w 0 ok (.slice A2 (xs.length - k) (c - k)) (xs.drop k) := by
  obtain ⟨i0, hi0, hzz⟩ := Option.map_eq_some_iff.1 infoByte
  simp only [Prod.mk.injEq] at hzz
  have hl : (xs.drop k).length = xs.length - k := by simp
  refine ⟨if c = k then A else A.map (·.add (k * kb.sz)), fun kl l' e1 W => ?_, ?_⟩
  · have := cut_from (P := Tryd.prog) 22 5 kl Tryd.underlying22 hi0 kb.sz hzz.2.1 A xs.length c l' (by omega) (by omega) W
    subst e1
    simp only [Int.toNat_natCast] at this
    exact this
  · rw [← hl]
    exact ⟨_, _, rfl, by rw [hl]; omega, Kd.F_cut h hk hc⟩
theorem kb_FK {w : World} {ok : Nat → Prop} (c : UInt8) : Kd.FK kb w ok c [.int .u8 (c.toNat : Int)] := fun _ _ => rfl
/-- Bytes of one's own, told the plainer way. -/
theorem own_R {w : World} {e base : Nat} {v : Value} {xs : List UInt8} {ok : Nat → Prop} (h : Kd.N kb e w base ok v xs) : kb.R e w base ok v xs := by
  obtain ⟨h0, rows, hl, ⟨_, inner, ho, hr⟩, hf⟩ := h
  refine ⟨h0, inner, by rw [← hl]; exact ho, by rw [← hl]; exact hr.1, fun j x hx => ?_⟩
  have hj : j < rows.length := by rw [hl]; exact (List.getElem?_eq_some_iff.1 hx).1
  have h1 := hr.2 j rows[j] (by rw [List.getElem?_eq_getElem hj])
  have h2 : rows[j] = [Value.int .u8 (x.toNat : Int)] := Kd.FK_now (hf j x rows[j] hx (by rw [List.getElem?_eq_getElem hj]))
  show (inner.drop (j * 1)).take 1 = [Value.int .u8 (x.toNat : Int)]
  rw [← h2]
  exact h1.1
theorem own_cell {W : World} {e base g n cap : Nat} {xs : List UInt8} (h : Own kb e W base (.slice (some ⟨g, 0, none⟩) n cap) xs) (i : Nat) (hi : i < xs.length) : W.cell? ⟨g, i, none⟩ = some (.int .u8 ((xs.getD i 0).toNat : Int)) ∧ W.frozen? ⟨g, i, none⟩ = false := by
  have hR := own_R h
  have hn := (Kd.R_reads' hR).1
  have := Kd.R_celln (d := (0 : UInt8)) hR (i : Int) (by omega) (by omega)
  simpa [rdOf] using this
theorem own_put {W : World} {e base g n cap : Nat} {xs : List UInt8} (h : Own kb e W base (.slice (some ⟨g, 0, none⟩) n cap) xs) (i : Nat) (c : UInt8) : Own kb e (W.setCell ⟨g, i, none⟩ (.int .u8 (c.toNat : Int))) base (.slice (some ⟨g, 0, none⟩) n cap) (xs.set i c) := by
  have := Kd.R_putn (own_R h) (i : Int) c
  rw [Int.toNat_natCast] at this
  exact Kd.R_N this
theorem own_form {W : World} {e base : Nat} {v : Value} {xs : List UInt8} (h : Own kb e W base v xs) (hp : 0 < xs.length) : ∃ g cap, v = .slice (some ⟨g, 0, none⟩) xs.length cap ∧ base ≤ g ∧ g < W.heap.size := by
  obtain ⟨g, cap, hv, h1, h2, _⟩ := Kd.N_form h hp
  exact ⟨g, cap, hv, h1, h2⟩
/-- A literal of bytes. -/
theorem lit_own (w : World) (base : Nat) (xs : List UInt8) (cs : List Value) (hcs : cs = xs.map fun c => Value.int .u8 (c.toNat : Int)) (hb : base ≤ w.heap.size) (hm : xs.length ≤ 1099511627776) :
    Own kb 5 (w.alloc (.cells cs.toArray 5)) base (.slice (some ⟨w.heap.size, 0, none⟩) xs.length xs.length) xs := by
  subst hcs
  refine Kd.R_N ⟨fun k hk => ?_, _, World.ownsRow_lit (size := 1) w (xs.map fun c => Value.int .u8 (c.toNat : Int)).toArray xs.length hb (by unfold maxLen; omega) (by simp), by simp [kb, Kd.scalar], fun j x hx => ?_⟩
  · have : w.heap.size = k := by simpa [Value.ownBlock] using hk
    omega
  · show ((xs.map fun c => Value.int .u8 (c.toNat : Int)).drop (j * 1)).take 1 = [Value.int .u8 (x.toNat : Int)]
    obtain ⟨hj, hx'⟩ := List.getElem?_eq_some_iff.1 hx
    rw [Nat.mul_one, List.drop_eq_getElem_cons (by simpa using hj)]
    simp [hx']
/-- A row of bytes in a block, frozen or not, reads. -/
theorem blk_rd {w : World} {g c : Nat} {C : Array Value} {t : TypeId} {fz : Nat × Nat} {ok : Nat → Prop} {xs : List UInt8} (h : w.heap[g]? = some (.cells C t fz)) (hC : C.toList = xs.map fun c => Value.int .u8 (c.toNat : Int)) (hg : ok g) (hc : xs.length ≤ c) (hm : xs.length ≤ 1099511627776) :
    Kd.V kb 0 w 0 ok (.slice (some ⟨g, 0, none⟩) xs.length c) xs := by
  refine ⟨some ⟨g, 0, none⟩, c, rfl, hc, fun W' hW => ⟨rfl, by omega, fun _ => ⟨_, rfl, fun j p hp => ⟨[.int .u8 (p.toNat : Int)], rfl, rfl, fun i u hu => ?_⟩⟩⟩⟩
  rcases i with _ | i
  · simp only [List.getElem?_cons_zero, Option.some.injEq] at hu
    subst hu
    rw [add_plain]
    have hlt : g < w.heap.size := (Array.getElem?_eq_some_iff.1 h).1
    have h2 := (hW g hg hlt).trans h
    rw [cell_of_row W' g _ C t fz h2, ← Array.getElem?_toList, hC]
    simp [kb, Kd.scalar, hp]
  · simp at hu
theorem lit_rd (w : World) (c : Nat) (C : Array Value) (t : TypeId) (fz : Nat × Nat) (xs : List UInt8) (hC : C.toList = xs.map fun c => Value.int .u8 (c.toNat : Int)) (hc : xs.length ≤ c) (hm : xs.length ≤ 1099511627776) :
    Kd.V kb 0 (w.alloc (.cells C t fz)) 0 (fun k => w.heap.size ≤ k) (.slice (some ⟨w.heap.size, 0, none⟩) xs.length c) xs :=
  blk_rd (heap_alloc_new w _) hC (Nat.le_refl _) hc hm
section
variable {ops : Array Oper} {rest : List Oper} {o : Oper} {a : Act} {Q : Exit → Act → World → Prop} {Kc : Act → World → Prop} {w0 W : World}
/-- append(v, c) of a byte. -/
theorem app1 (base : Nat) (hgd : o.guard = none) (s x : Operand) (ho : o.op = .call { callee := .builtin .append, args := #[s, x], argTypes := #[22, 22] })
    (v : Value) (xs : List UInt8) (c : UInt8) (i : Int) (hi : i = (c.toNat : Int)) (hs : a.eval s = v) (hx : a.eval x = .slice (some ⟨W.heap.size, 0, none⟩) 1 1)
    (HO : Own kb 5 W base v xs) (HB : Below base w0 W) (hbase : base ≤ W.heap.size) (hl : xs.length ≤ 70368744177664)
    (h : ∀ v1 w1, Own kb 5 w1 base v1 (xs ++ [c]) → Below base w0 w1 → W.grownBy w1 v.ownBlock → (v1.ownBlock = v.ownBlock ∨ ∃ b, v1.ownBlock = some b ∧ W.heap.size ≤ b) → wpList Tryd.prog ops Q rest (a.put o.dst v1) w1) :
    wpList Tryd.prog ops Q (o :: rest) a (W.alloc (.cells #[.int .u8 i] 5)) := by
  subst hi
  exact Kd.N_append kb base hgd s x 22 5 (.int .u8 0) 1 ho Tryd.underlying22 infoByte rfl (by decide) (by omega) v xs c [.int .u8 (c.toNat : Int)] _ (fun _ => False) hs hx (kb_FK c) (fun _ h => h.elim) (fun k hk => Nat.le_trans hbase hk) HO HB hbase (by omega) h
/-- append(v, ys...) of bytes. -/
theorem appN (base : Nat) (hgd : o.guard = none) (s x : Operand) (ho : o.op = .call { callee := .builtin .append, args := #[s, x], argTypes := #[22, 22] })
    (v u : Value) (xs ys : List UInt8) (hs : a.eval s = v) (hx : a.eval x = u)
    (HO : Own kb 5 W base v xs) (HR : Rd kb W u ys) (HB : Below base w0 W) (hbase : base ≤ W.heap.size) (hl : xs.length + ys.length ≤ 70368744177664)
    (h : ∀ v1 w1, Own kb 5 w1 base v1 (xs ++ ys) → Below base w0 w1 → W.grownBy w1 v.ownBlock → (v1.ownBlock = v.ownBlock ∨ ∃ b, v1.ownBlock = some b ∧ W.heap.size ≤ b) → wpList Tryd.prog ops Q rest (a.put o.dst v1) w1) :
    wpList Tryd.prog ops Q (o :: rest) a W := by
  obtain ⟨A, c, rfl, hc, hF⟩ := HR
  exact Kd.R_append_rows kb base hgd s x 22 5 (.int .u8 0) 1 ho Tryd.underlying22 infoByte rfl (by decide) (by omega) v xs ys A ys.length c _ (fun _ => False) hs hx (own_R HO) (Kd.F_now hF) (fun _ _ h => h) (fun _ h => h.elim) (fun k hk => Nat.le_trans hbase hk) HB hbase (by omega) (fun v1 w1 h1 => h v1 w1 (Kd.R_N h1))
/-- make([]byte, n) -/
theorem mkB (base : Nat) (hgd : o.guard = none) {N' : Tmp} (hd : o.dst = some N') (x y : Operand) (ho : o.op = .makeSlice 22 x y) (n : Nat) (hx : a.eval x = .int .i64 (n : Int)) (hy : a.eval y = .int .i64 (n : Int)) (hl : n ≤ 281474976710656) (HB : Below base w0 W) (hbase : base ≤ W.heap.size)
    (h : ∀ v1 w1, Own kb 5 w1 base v1 (List.replicate n (0 : UInt8)) → Below base w0 w1 → W.grownBy w1 none → wpList Tryd.prog ops Q rest (a.put o.dst v1) w1) :
    wpList Tryd.prog ops Q (o :: rest) a W := by
  refine Kd.N_make kb base 5 hgd hd 22 x y ho (n : Int) hx hy Tryd.underlying22 (.int .u8 0) 1 infoByte rfl (by decide) (by omega) (0 : UInt8) (ok := fun k => base ≤ k) (okp := fun _ => False) (kb_FK 0) (fun _ h => h.elim) hbase (by omega) (by rw [Int.toNat_natCast]; omega) HB hbase ?_
  intro v1 w1 h1 h2 h3 _
  rw [Int.toNat_natCast] at h1
  exact h v1 w1 h1 h2 h3
/-- The same, in a region that draws its order. -/
theorem app1_step (base : Nat) (hgd : Region.wanted o (yielded ops a.tmps) = true) (s x : Operand) (ho : o.op = .call { callee := .builtin .append, args := #[s, x], argTypes := #[22, 22] })
    (v : Value) (xs : List UInt8) (c : UInt8) (i : Int) (hi : i = (c.toNat : Int)) (hs : a.eval s = v) (hx : a.eval x = .slice (some ⟨W.heap.size, 0, none⟩) 1 1)
    (HO : Own kb 5 W base v xs) (HB : Below base w0 W) (hbase : base ≤ W.heap.size) (hl : xs.length ≤ 70368744177664)
    (h : ∀ v1 w1, Own kb 5 w1 base v1 (xs ++ [c]) → Below base w0 w1 → W.grownBy w1 v.ownBlock → (v1.ownBlock = v.ownBlock ∨ ∃ b, v1.ownBlock = some b ∧ W.heap.size ≤ b) → Kc (a.put o.dst v1) w1) :
    if Region.wanted o (yielded ops a.tmps) = true then Oper.wp Tryd.prog o a (W.alloc (.cells #[.int .u8 i] 5)) Kc Q else Kc (a.put o.dst undef) (W.alloc (.cells #[.int .u8 i] 5)) := by
  subst hi
  exact Kd.N_append_step kb base hgd s x 22 5 (.int .u8 0) 1 ho Tryd.underlying22 infoByte rfl (by decide) (by omega) v xs c [.int .u8 (c.toNat : Int)] _ (fun _ => False) hs hx (kb_FK c) (fun _ h => h.elim) (fun k hk => Nat.le_trans hbase hk) HO HB hbase (by omega) h
theorem appN_step (base : Nat) (hgd : Region.wanted o (yielded ops a.tmps) = true) (s x : Operand) (ho : o.op = .call { callee := .builtin .append, args := #[s, x], argTypes := #[22, 22] })
    (v u : Value) (xs ys : List UInt8) (hs : a.eval s = v) (hx : a.eval x = u)
    (HO : Own kb 5 W base v xs) (HR : Rd kb W u ys) (HB : Below base w0 W) (hbase : base ≤ W.heap.size) (hl : xs.length + ys.length ≤ 70368744177664)
    (h : ∀ v1 w1, Own kb 5 w1 base v1 (xs ++ ys) → Below base w0 w1 → W.grownBy w1 v.ownBlock → (v1.ownBlock = v.ownBlock ∨ ∃ b, v1.ownBlock = some b ∧ W.heap.size ≤ b) → Kc (a.put o.dst v1) w1) :
    if Region.wanted o (yielded ops a.tmps) = true then Oper.wp Tryd.prog o a W Kc Q else Kc (a.put o.dst undef) W := by
  obtain ⟨A, c, rfl, hc, hF⟩ := HR
  exact Kd.R_append_rows_step kb base hgd s x 22 5 (.int .u8 0) 1 ho Tryd.underlying22 infoByte rfl (by decide) (by omega) v xs ys A ys.length c _ (fun _ => False) hs hx (own_R HO) (Kd.F_now hF) (fun _ _ h => h) (fun _ h => h.elim) (fun k hk => Nat.le_trans hbase hk) HB hbase (by omega) (fun v1 w1 h1 => h v1 w1 (Kd.R_N h1))
end
/-- A line of a row of lines. -/
theorem line_get {w : World} {A : Option Addr} {n : Nat} {ok : Nat → Prop} {xs : List (Int × List UInt8)} (h : Kd.F kLine w ok A n xs) (i : Nat) (x : Int × List UInt8) (hx : xs[i]? = some x) :
    ∃ ad A2 c2, A = some ad ∧ Kd.V kb 0 w 0 ok (.slice A2 x.2.length c2) x.2 ∧ w.cell? (ad.add (i * 2)) = some (.int .i64 x.1) ∧ w.cell? ⟨(ad.add (i * 2)).block, (ad.add (i * 2)).off + 1, none⟩ = some (.slice A2 x.2.length c2) := by
  obtain ⟨ad, cs, he, hK, hc⟩ := row_get h i x hx
  obtain ⟨vB, rfl, hV⟩ := line_open hK
  obtain ⟨A2, c2, rfl, hc2, hF⟩ := hV
  refine ⟨ad, A2, c2, he, ⟨A2, c2, rfl, hc2, hF⟩, hc 0 _ rfl, ?_⟩
  have := hc 1 _ rfl
  rw [add_field _ _ 1 (by omega)] at this
  exact this
/-- A line of a row of one's own. -/
theorem line_own {w : World} {v : Value} {e base : Nat} {ok : Nat → Prop} {xs : List (Int × List UInt8)} (h : Kd.N kLine e w base ok v xs) (hp : 0 < xs.length) :
    ∃ g cap, v = .slice (some ⟨g, 0, none⟩) xs.length cap ∧ g < w.heap.size ∧ ∀ (i : Nat) (x : Int × List UInt8), xs[i]? = some x → ∃ A2 c2, Kd.V kb 0 w 0 ok (.slice A2 x.2.length c2) x.2 ∧ w.cell? ⟨g, i * 2, none⟩ = some (.int .i64 x.1) ∧ w.cell? ⟨g, i * 2 + 1, none⟩ = some (.slice A2 x.2.length c2) := by
  obtain ⟨g, cap, rfl, _, hg, _⟩ := Kd.N_form h hp
  refine ⟨g, cap, rfl, hg, fun i x hx => ?_⟩
  obtain ⟨ad, cs, he, hK, hc⟩ := row_get (Kd.N_F h) i x hx
  injection he with he
  subst he
  obtain ⟨vB, rfl, hV⟩ := line_open hK
  obtain ⟨A2, c2, rfl, hc2, hF⟩ := hV
  have e0 := hc 0 _ rfl
  have e1 := hc 1 _ rfl
  rw [add_plain] at e0 e1
  exact ⟨A2, c2, ⟨A2, c2, rfl, hc2, hF⟩, e0, e1⟩
/-- Only block g has been written. -/
structure Put (W W1 : World) (g : Nat) : Prop where
  os : W1.os = W.os
  tape : W1.tape = W.tape
  output : W1.output = W.output
  size : W1.heap.size = W.heap.size
  block : ∀ k, k ≠ g → W1.heap[k]? = W.heap[k]?
theorem Put.bel {w W W1 : World} {g : Nat} (h : Put W W1 g) (hb : Below w.heap.size w W) (hg : w.heap.size ≤ g) : Below w.heap.size w W1 :=
  hb.trans ⟨h.os, h.tape, h.output, by rw [h.size]; exact Nat.le_refl _, fun k hk => h.block k (by omega)⟩
theorem Put.belB {w W W1 : World} {B g : Nat} (h : Put W W1 g) (hb : Below B w W) (hg : B ≤ g) : Below B w W1 :=
  hb.trans ⟨h.os, h.tape, h.output, by rw [h.size]; exact Nat.le_refl _, fun k hk => h.block k (by omega)⟩
theorem Put.blk {W W1 : World} {g k : Nat} {cs : Array Value} {t : TypeId} (h : Put W W1 g) (hk : Blk W k cs t) (hne : k ≠ g) : Blk W1 k cs t := ⟨(h.block k hne).trans hk.out⟩
theorem Put.own {α : Type} {d : Kd α} {e base : Nat} {W W1 : World} {g : Nat} {v : Value} {xs : List α} (h : Put W W1 g) (ho : Own d e W base v xs) (hg : g < base) : Own d e W1 base v xs := Kd.N_step ho (fun k hk _ => h.block k (by omega))
theorem Put.v {α : Type} {d : Kd α} {e base b : Nat} {W W1 : World} {g : Nat} {v : Value} {xs : List α} (h : Put W W1 g) (ho : Kd.V d e W b (fun k => base ≤ k) v xs) (hg : g < base) : Kd.V d e W1 b (fun k => base ≤ k) v xs := Kd.V_step ho (fun k hk _ => h.block k (by omega))
section
variable {ops : Array Oper} {rest : List Oper} {o : Oper} {a : Act} {Q : Exit → Act → World → Prop} {W : World}
/-- A store of seg into cells off .. of a block of one's own. -/
theorem store_blk (hgd : o.guard = none) (hN : o.dst = none) (t : TypeId) (p x : Operand) (ho : o.op = .store t p x) (g off : Nat) (cs cs' : Array Value) (e : TypeId) (u : Value) (seg : List Value)
    (hp : a.eval p = .pointer (some ⟨g, off, none⟩)) (hx : a.eval x = u) (hu : u.cells.toList = seg) (ht : (Tryd.prog.info? t).map (·.size) = some seg.length) (h1 : ∀ q ∈ seg, q.oneCell' = true)
    (hB : Blk W g cs e) (hfit : off + seg.length ≤ cs.size) (hcs : (cs.toList.take off ++ seg ++ cs.toList.drop (off + seg.length)).toArray = cs')
    (h : ∀ W1, Blk W1 g cs' e → Put W W1 g → wpList Tryd.prog ops Q rest a W1) : wpList Tryd.prog ops Q (o :: rest) a W := by
  refine wpList_plain hgd fun K hK => ?_
  have hrun := run_store_run (P := Tryd.prog) (o := off) t u seg hB.out hu ht hfit h1
  unfold Oper.wp execOp
  simp only [ho, hp, hx, Sem.run_bind, Sem.run_pure, Result.andThen_ok, hrun]
  show K (a.put o.dst undef) _
  rw [hN]
  obtain ⟨s1, s2, s3, s4⟩ := setCells_same g seg off W
  obtain ⟨cur', h3, h4, h5⟩ := setCells_row seg off W cs hB.out hfit
  refine hK a _ (h _ ⟨?_⟩ ⟨s1, s2, s3, s4, fun k hk => setCells_far seg off k hk⟩)
  rw [h3, ← hcs, ← h5]
end
theorem kb_reads {w : World} {A : Option Addr} {n : Nat} {l : List UInt8} {ok : Nat → Prop} (h : Kd.F kb w ok A n l) : ReadsInt w .u8 A n (l.map fun c => (c.toNat : Int)) := by
  have hn := Kd.F_len h
  refine ⟨by rw [List.length_map]; exact hn, Kd.F_max h, fun hp => ?_⟩
  obtain ⟨ad, rfl, _⟩ := kb_cell h 0 (by omega)
  refine ⟨ad, rfl, fun j hj => ?_⟩
  rw [kb_cell' h j (by omega)]
  have e : j < l.length := by omega
  simp [List.getD, e]
theorem str_nums (l : List UInt8) : strOfNums (l.map fun c => (c.toNat : Int)) = ⟨l.toArray⟩ := by
  unfold strOfNums
  simp [Function.comp_def]
/-- string(b) -/
theorem byte_string {w : World} {v : Value} {l : List UInt8} (h : Rd kb w v l) : (convert 22 9 v).run Tryd.prog w = .ok (.string ⟨l.toArray⟩) w := by
  obtain ⟨A, c, rfl, hc, hF⟩ := h
  rw [string_of_reads Tryd.underlying22 Tryd.underlying5 Tryd.underlying9 (kb_reads hF), str_nums]
/-- slices.Clone of bytes. -/
theorem clone_any (v : Value) (l0 : List UInt8) (w : World) (hr0 : Rd kb w v l0) (hl : l0.length ≤ 140737488355328) :
    Calls Tryd.prog 22 #[v] w fun e w' => ∃ v0 : Value, e = .returned v0 ∧ Own kb 5 w' w.heap.size v0 l0 ∧ Below w.heap.size w w' := by
  obtain ⟨A0, c0, rfl, hc0, HR0⟩ := hr0
  have Hl := Lib.hid hl
  have HR := Lib.hid (Kd.F_now HR0)
  clear HR0 hl hc0
  have heq := fun (w : World) => Lib.run_eql_slice_nil (P := Tryd.prog) w 22 5 A0 l0.length c0 0 0 Tryd.underlying22
  cases A0 with
  | none =>
    go_enter Tryd.func22, Tryd.ntmps22
    go_wp2_with fail
    go_ret
    have h0 : l0 = [] := by
      rcases l0 with _ | ⟨a, l⟩
      · rfl
      · obtain ⟨_, h, _⟩ := HR.out.2.2 (by simp)
        cases h
    subst h0
    exact ⟨_, rfl, Own.nil _ _ _ _, Below.refl _ _⟩
  | some ad =>
    go_enter Tryd.func22, Tryd.ntmps22
    go_wp2_with (first | ((with_reducible refine gate_dst (N := 5) rfl ?_); refine Kd.R_lit kb _ 5 ?hg (N := 5) ?hd (xs := ([] : List UInt8)) (inner := []) (ok := fun k => w.heap.size ≤ k) (okp := fun _ => False) ?hr ?hp (fun _ hk => hk.elim) (Nat.le_refl _) (Below.refl _ _) (Nat.le_refl _) (by simp) ?_; (case hd => rfl); (case hg => rfl); (case hr => first | (go_simp; done) | (go_simp; rfl)); (case hp => exact (Reps.none _ _)); intro v1 w1 ho1 hb1 hg1 _) | ((with_reducible refine gate_builtin (b := .append) (xs := #[.tmp 5, .tmp 6]) rfl ?_); at_builtin; refine Kd.R_append_rows kb (w0 := w) w.heap.size rfl (.tmp 5) (.tmp 6) 22 5 (.int .u8 0) 1 rfl Tryd.underlying22 infoByte rfl (by decide) (by omega) v1 [] l0 _ _ _ (fun k => w.heap.size ≤ k) (fun _ => False) rfl rfl ho1 ?aR (fun _ _ h => h) (fun _ h => h.elim) ?aF ?aB ?aS ?aL ?_; (case aR => exact Kd.C_below HR.out hb1); (case aB => exact hb1); (case aF => exact (fun k hk => Nat.le_trans hb1.size hk)); (case aS => exact hb1.size); (case aL => have := Hl.out; simp; omega); intro v2 w2 ho2 hb2 hg2 hat2))
    go_ret
    exact ⟨_, rfl, Kd.R_N ho2, hb2⟩
end Go.Proofs.YtjdcejbblcbjpaaDoor
