import Derived.Test.YtfppbkpdpapemaaDoorBase
import Derived.Test.YtfppbkpdpapemaaDoorCfgKit
import Derived.Test.YtfppbkpdpapemaaDoorIt
/-! Rows of strings. -/
set_option linter.unusedSimpArgs false
set_option linter.unusedVariables false
namespace Go.Proofs.YtfppbkpdpapemaaDoor
open Go.RowKit Go.Proofs.YtfppbkpdpapemaaDoorW.PrintWords Go.Proofs.YtfppbkpdpapemaaDoorW.PrintLast Go.Proofs.YtfppbkpdpapemaaDoorW.PrintMore
/-- A string's value. -/
abbrev strV (s : List UInt8) : Value := .string ⟨s.toArray⟩
/-- A string's cell. -/
def kStr : Kd (List UInt8) := Kd.scalar strV (fun _ => rfl)
theorem infoStr : (Tryd.prog.info? 9).map (fun i => (i.zero, i.size, i.bytes)) = some (some (strV []), 1, 16) := by kernel_rfl
theorem kStr_FK {w : World} {ok : Nat → Prop} (s : List UInt8) : Kd.FK kStr w ok s [strV s] := fun _ _ => rfl
theorem kStr_cell {w : World} {A : Option Addr} {n : Nat} {ok : Nat → Prop} {xs : List (List UInt8)} (h : Kd.F kStr w ok A n xs) (i : Nat) (x : List UInt8) (hx : xs[i]? = some x) : ∃ ad, A = some ad ∧ w.cell? (ad.add i) = some (strV x) := by
  obtain ⟨ad, cs, he, hK, hc⟩ := row_get h i x hx
  have hk : cs = [strV x] := Kd.FK_now hK
  subst hk
  exact ⟨ad, he, by have := hc 0 _ rfl; simpa [kStr, Kd.scalar] using this⟩
/-- A literal of strings. -/
theorem lit_ownS (w : World) (base : Nat) (xs : List (List UInt8)) (cs : List Value) (hcs : cs = xs.map strV) (hb : base ≤ w.heap.size) (hm : xs.length ≤ 1099511627776) :
    Own kStr 9 (w.alloc (.cells cs.toArray 9)) base (.slice (some ⟨w.heap.size, 0, none⟩) xs.length xs.length) xs := by
  subst hcs
  refine Kd.R_N ⟨fun k hk => ?_, _, World.ownsRow_lit (size := 1) w (xs.map strV).toArray xs.length hb (by unfold maxLen; omega) (by simp), by simp [kStr, Kd.scalar], fun j x hx => ?_⟩
  · have : w.heap.size = k := by simpa [Value.ownBlock] using hk
    omega
  · show ((xs.map strV).drop (j * 1)).take 1 = [strV x]
    obtain ⟨hj, hx'⟩ := List.getElem?_eq_some_iff.1 hx
    rw [Nat.mul_one, List.drop_eq_getElem_cons (by simpa using hj)]
    simp [hx']
section
variable {ops : Array Oper} {rest : List Oper} {o : Oper} {a : Act} {Q : Exit → Act → World → Prop} {Kc : Act → World → Prop} {w0 W : World}
/-- append(v, s) of a string. -/
theorem appS (base : Nat) (hgd : o.guard = none) (s x : Operand) (ho : o.op = .call { callee := .builtin .append, args := #[s, x], argTypes := #[25, 25] })
    (v : Value) (xs : List (List UInt8)) (c : List UInt8) (u : Value) (hu : u = strV c) (hs : a.eval s = v) (hx : a.eval x = .slice (some ⟨W.heap.size, 0, none⟩) 1 1)
    (HO : Own kStr 9 W base v xs) (HB : Below base w0 W) (hbase : base ≤ W.heap.size) (hl : xs.length ≤ 4398046511104)
    (h : ∀ v1 w1, Own kStr 9 w1 base v1 (xs ++ [c]) → Below base w0 w1 → W.grownBy w1 v.ownBlock → (v1.ownBlock = v.ownBlock ∨ ∃ b, v1.ownBlock = some b ∧ W.heap.size ≤ b) → wpList Tryd.prog ops Q rest (a.put o.dst v1) w1) :
    wpList Tryd.prog ops Q (o :: rest) a (W.alloc (.cells #[u] 9)) := by
  subst hu
  exact Kd.N_append kStr base hgd s x 25 9 (strV []) 16 ho Tryd.underlying25 infoStr rfl (by decide) (by omega) v xs c [strV c] _ (fun _ => False) hs hx (kStr_FK c) (fun _ h => h.elim) (fun k hk => Nat.le_trans hbase hk) HO HB hbase (by omega) h
end
theorem strS_form {W : World} {e base : Nat} {v : Value} {xs : List (List UInt8)} (h : Own kStr e W base v xs) (hp : 0 < xs.length) : ∃ g cap, v = .slice (some ⟨g, 0, none⟩) xs.length cap ∧ base ≤ g ∧ g < W.heap.size ∧ ∀ i x, xs[i]? = some x → W.cell? ⟨g, i, none⟩ = some (strV x) := by
  obtain ⟨g, cap, hv, h1, h2, _⟩ := Kd.N_form h hp
  subst hv
  refine ⟨g, cap, rfl, h1, h2, fun i x hx => ?_⟩
  obtain ⟨ad, he, hc⟩ := kStr_cell (Kd.N_F h) i x hx
  injection he with he
  subst he
  rw [add_plain] at hc
  exact hc
theorem str_app (a b : List UInt8) : (⟨a.toArray⟩ ++ ⟨b.toArray⟩ : ByteArray) = ⟨(a ++ b).toArray⟩ := by
  rw [ByteArray.mk_append_mk]
theorem digs_lib {n : Nat} (h : n < 100) : Lib.decDigits n = Pl.digs n := by
  by_cases h1 : n < 10
  · rw [Lib.decDigits, dif_pos h1, Pl.digs, if_pos h1]
  · rw [Lib.decDigits, dif_neg h1, Lib.decDigits, dif_pos (by omega), Pl.digs, if_neg h1]; rfl
theorem own_RS {w : World} {e base : Nat} {v : Value} {xs : List (List UInt8)} {ok : Nat → Prop} (h : Kd.N kStr e w base ok v xs) : kStr.R e w base ok v xs := by
  obtain ⟨h0, rows, hl, ⟨_, inner, ho, hr⟩, hf⟩ := h
  refine ⟨h0, inner, by rw [← hl]; exact ho, by rw [← hl]; exact hr.1, fun j x hx => ?_⟩
  have hj : j < rows.length := by rw [hl]; exact (List.getElem?_eq_some_iff.1 hx).1
  have h1 := hr.2 j rows[j] (by rw [List.getElem?_eq_getElem hj])
  have h2 : rows[j] = [strV x] := Kd.FK_now (hf j x rows[j] hx (by rw [List.getElem?_eq_getElem hj]))
  show (inner.drop (j * 1)).take 1 = [strV x]
  rw [← h2]
  exact h1.1
/-- A row of strings that something else has grown beside. -/
theorem ownS_grown {w w1 : World} {e base : Nat} {v : Value} {xs : List (List UInt8)} (h : Own kStr e w base v xs) {row : Option Nat} (hg : w.grownBy w1 row) (hne : row ≠ v.ownBlock) : Own kStr e w1 base v xs := Kd.R_N (Kd.R_grown1 (own_RS h) rfl hg hne)
end Go.Proofs.YtfppbkpdpapemaaDoor
