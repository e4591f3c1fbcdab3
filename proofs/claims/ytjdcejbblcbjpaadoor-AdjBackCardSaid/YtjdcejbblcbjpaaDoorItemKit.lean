import Derived.Test.YtjdcejbblcbjpaaDoorBase
import Derived.Test.YtjdcejbblcbjpaaDoorPlain
/-! Rows of items. What a line of a vertex and its neighbours is. -/
set_option linter.unusedSimpArgs false
set_option linter.unusedVariables false
namespace Go.Proofs.YtjdcejbblcbjpaaDoor
open Go.RowKit Go.Proofs.YtjdcejbblcbjpaaDoorW.PrintWords Go.Proofs.YtjdcejbblcbjpaaDoorW.PrintLast Go.Proofs.YtjdcejbblcbjpaaDoorW.PrintMore

namespace Pl
abbrev ItT := Bool × List UInt8 × List UInt8 × Int × Int
def It.t (x : It) : ItT := (x.two, x.a, x.b, x.code, x.at_)
/-- where the first word stands that is no label -/
def badAt (num : Bool) : List (Int × List UInt8) → Option Int
  | [] => none
  | x :: r => if label x.2 num = none then some x.1 else badAt num r
def labs (num : Bool) (ws : List (Int × List UInt8)) : List (List UInt8) := ws.map fun x => (label x.2 num).getD []
def mates : List (List UInt8) → List ItT
  | [] => []
  | a :: r => r.map fun b => (true, a, b, 0, 0)
def adj (at_ : Int) (l : List UInt8) (num : Bool) : List ItT :=
  if words at_ l = [] then [(false, [], [], 80, at_)]
  else match badAt num (words at_ l) with
    | some p => [(false, [], [], 81, p)]
    | none => if (words at_ l).length = 1 then [(false, (labs num (words at_ l)).headD [], [], 0, 0)] else mates (labs num (words at_ l))
theorem badAt_app (num : Bool) (a b : List (Int × List UInt8)) : badAt num (a ++ b) = match badAt num a with | some p => some p | none => badAt num b := by
  induction a with
  | nil => rfl
  | cons x r ih =>
    simp only [List.cons_append, badAt]
    split
    · rfl
    · exact ih
theorem takeD {α : Type} {l : List α} {k : Nat} {x : α} (h : l[k]? = some x) : l.take (k + 1) = l.take k ++ [x] := by
  rw [List.take_add_one, h]; rfl
theorem cutD {α : Type} {l : List α} {k : Nat} {x : α} (h : l[k]? = some x) : l = l.take k ++ x :: l.drop (k + 1) := by
  obtain ⟨hk, he⟩ := List.getElem?_eq_some_iff.1 h
  rw [← he, ← List.drop_eq_getElem_cons hk, List.take_append_drop]
theorem badAt_some {num : Bool} {ws : List (Int × List UInt8)} {k : Nat} {x : Int × List UInt8} (h : ws[k]? = some x) (h0 : badAt num (ws.take k) = none) (hb : label x.2 num = none) : badAt num ws = some x.1 := by
  rw [cutD h, badAt_app, h0]
  simp [badAt, hb]
theorem badAt_next {num : Bool} {ws : List (Int × List UInt8)} {k : Nat} {x : Int × List UInt8} (h : ws[k]? = some x) (h0 : badAt num (ws.take k) = none) {b : List UInt8} (hb : label x.2 num = some b) : badAt num (ws.take (k + 1)) = none := by
  rw [takeD h, badAt_app, h0]
  simp [badAt, hb]
theorem labs_next {num : Bool} {ws : List (Int × List UInt8)} {k : Nat} {x : Int × List UInt8} (h : ws[k]? = some x) {b : List UInt8} (hb : label x.2 num = some b) : labs num (ws.take (k + 1)) = labs num (ws.take k) ++ [b] := by
  rw [takeD h]
  simp [labs, hb]
theorem labs_len (num : Bool) (ws : List (Int × List UInt8)) : (labs num ws).length = ws.length := by simp [labs]
theorem mates_snoc {l : List (List UInt8)} (h : l ≠ []) (b : List UInt8) : mates (l ++ [b]) = mates l ++ [(true, l.headD [], b, 0, 0)] := by
  rcases l with _ | ⟨a, r⟩
  · exact (h rfl).elim
  · simp [mates]
theorem head_snoc {l : List (List UInt8)} (h : l ≠ []) (b : List UInt8) : (l ++ [b]).headD [] = l.headD [] := by
  rcases l with _ | ⟨a, r⟩
  · exact (h rfl).elim
  · rfl
theorem mates_len (l : List (List UInt8)) : (mates l).length = l.length - 1 := by
  rcases l with _ | ⟨a, r⟩ <;> simp [mates]
theorem label_le (l : List UInt8) (num : Bool) : ((label l num).getD []).length ≤ 32 := by
  unfold label
  cases num
  · simp only [Bool.false_eq_true, if_false]
    split
    · rename_i h; simp_all
    · simp
  · simp only [if_true]
    split
    · simp [fixB_len]
    · simp
theorem labs_head (num : Bool) (ws : List (Int × List UInt8)) : ((labs num ws).headD []).length ≤ 32 := by
  rcases ws with _ | ⟨x, r⟩
  · simp [labs]
  · exact label_le x.2 num
theorem adj_none {at_ : Int} {l : List UInt8} {num : Bool} {ws : List (Int × List UInt8)} (h : words at_ l = ws) (h0 : ws.length = 0) : adj at_ l num = [(false, [], [], 80, at_)] := by
  unfold adj
  rw [h, if_pos (List.eq_nil_of_length_eq_zero h0)]
theorem adj_bad {at_ : Int} {l : List UInt8} {num : Bool} {ws : List (Int × List UInt8)} (h : words at_ l = ws) {p : Int} (hb : badAt num ws = some p) : adj at_ l num = [(false, [], [], 81, p)] := by
  unfold adj
  rw [h, if_neg (fun hn => by rw [hn] at hb; simp [badAt] at hb), hb]
theorem adj_one {at_ : Int} {l : List UInt8} {num : Bool} {ws : List (Int × List UInt8)} (h : words at_ l = ws) (h1 : ws.length = 1) (hb : badAt num ws = none) : adj at_ l num = [(false, (labs num ws).headD [], [], 0, 0)] := by
  unfold adj
  rw [h, if_neg (fun hn => by rw [hn] at h1; simp at h1), hb]
  simp [h1]
theorem adj_more {at_ : Int} {l : List UInt8} {num : Bool} {ws : List (Int × List UInt8)} (h : words at_ l = ws) (h2 : 2 ≤ ws.length) (hb : badAt num ws = none) : adj at_ l num = mates (labs num ws) := by
  unfold adj
  rw [h, if_neg (fun hn => by rw [hn] at h2; simp at h2), hb]
  simp only
  rw [if_neg (by omega)]
end Pl

/-- An item. -/
def kItem : Kd Pl.ItT := Kd.pair Kd.bool (Kd.pair (Kd.slice 5 kb) (Kd.pair (Kd.slice 5 kb) (Kd.pair (Kd.int .i64) (Kd.int .i64))))
theorem item_FK {w : World} {ok : Nat → Prop} {va vb : Value} {two : Bool} {a b : List UInt8} {code at_ : Int} (ha : Kd.V kb 0 w 0 ok va a) (hb : Kd.V kb 0 w 0 ok vb b) : Kd.FK kItem w ok (two, a, b, code, at_) [.bool two, va, vb, .int .i64 code, .int .i64 at_] := by
  obtain ⟨A, c, rfl, hl, hF⟩ := ha
  obtain ⟨A', c', rfl, hl', hF'⟩ := hb
  exact fun W' hW => ⟨[.bool two], [.slice A a.length c, .slice A' b.length c', .int .i64 code, .int .i64 at_], rfl, rfl, [.slice A a.length c], [.slice A' b.length c', .int .i64 code, .int .i64 at_], rfl, ⟨A, c, rfl, hl, hF W' hW⟩, [.slice A' b.length c'], [.int .i64 code, .int .i64 at_], rfl, ⟨A', c', rfl, hl', hF' W' hW⟩, [.int .i64 code], [.int .i64 at_], rfl, rfl, rfl⟩
theorem item_open {w : World} {ok : Nat → Prop} {x : Pl.ItT} {cs : List Value} (h : Kd.FK kItem w ok x cs) : ∃ va vb, cs = [.bool x.1, va, vb, .int .i64 x.2.2.2.1, .int .i64 x.2.2.2.2] ∧ Kd.V kb 0 w 0 ok va x.2.1 ∧ Kd.V kb 0 w 0 ok vb x.2.2.1 := by
  obtain ⟨_, _, rfl, rfl, _, _, rfl, ⟨A, c, rfl, hl, _⟩, _, _, rfl, ⟨A', c', rfl, hl', _⟩, _, _, rfl, rfl, rfl⟩ := Kd.FK_now h
  refine ⟨_, _, rfl, ⟨A, c, rfl, hl, fun W' hW => ?_⟩, ⟨A', c', rfl, hl', fun W' hW => ?_⟩⟩
  · obtain ⟨_, _, he, rfl, _, _, rfl, ⟨A2, c2, rfl, hl2, hC⟩, _, _, rfl, ⟨A3, c3, rfl, hl3, hC'⟩, _, _, rfl, rfl, rfl⟩ := h W' hW
    simp at he
    obtain ⟨⟨e1, _⟩, _⟩ := he
    rw [e1]
    exact hC
  · obtain ⟨_, _, he, rfl, _, _, rfl, ⟨A2, c2, rfl, hl2, hC⟩, _, _, rfl, ⟨A3, c3, rfl, hl3, hC'⟩, _, _, rfl, rfl, rfl⟩ := h W' hW
    simp at he
    obtain ⟨_, e1, _⟩ := he
    rw [e1]
    exact hC'
/-- A block of cells reads as a row. -/
theorem krow_rd {α : Type} {d : Kd α} {w : World} {g c : Nat} {C : Array Value} {t : TypeId} {fz : Nat × Nat} {ok : Nat → Prop} {xs : List α} (h : w.heap[g]? = some (.cells C t fz))
    (hC : ∀ j x, xs[j]? = some x → ∃ cs, Kd.FK d w ok x cs ∧ ∀ i u, cs[i]? = some u → C[j * d.sz + i]? = some u) (hg : ok g) (hc : xs.length ≤ c) (hm : xs.length ≤ 1099511627776) :
    Kd.V d 0 w 0 ok (.slice (some ⟨g, 0, none⟩) xs.length c) xs := by
  refine ⟨some ⟨g, 0, none⟩, c, rfl, hc, fun W' hW => ⟨rfl, by omega, fun _ => ⟨_, rfl, fun j p hp => ?_⟩⟩⟩
  obtain ⟨cs, hK, hcs⟩ := hC j p hp
  refine ⟨cs, d.K_len (hK W' hW), hK W' hW, fun i u hu => ?_⟩
  have hlt : g < w.heap.size := (Array.getElem?_eq_some_iff.1 h).1
  have h2 := (hW g hg hlt).trans h
  rw [add_plain, cell_of_row W' g _ C t fz h2]
  exact hcs i u hu
end Go.Proofs.YtjdcejbblcbjpaaDoor
