import Derived.Test.YtfppbkpdpapemaaDoorCfgKit
import Derived.Test.YtfppbkpdpapemaaDoorSPut
import Derived.DataReads
import Derived.ChangeArms
import Derived.ChangeMaps5
/-! A sheet as an argument: opened. -/
set_option linter.unusedSimpArgs false
set_option linter.unusedVariables false
namespace Go.Proofs.YtfppbkpdpapemaaDoor
open Go.RowKit Go.ChangeShapes Go.WideShapes Go.ChangeAt Go.ChangeMaps Go.Deep Go.Proofs.YtfppbkpdpapemaaDoorW.PrintWords Go.Proofs.YtfppbkpdpapemaaDoorW.PrintLast Go.Proofs.YtfppbkpdpapemaaDoorW.PrintMore

theorem list_of {α : Type} (n : Nat) : ∀ (P : Nat → α → Prop), (∀ i, i < n → ∃ x, P i x) → ∃ l : List α, l.length = n ∧ ∀ (i : Nat) (x : α), l[i]? = some x → P i x := by
  induction n with
  | zero => intro P _; exact ⟨[], rfl, fun i x h => by simp at h⟩
  | succ n ih =>
    intro P h
    obtain ⟨x, hx⟩ := h 0 (by omega)
    obtain ⟨l, hl, hp⟩ := ih (fun i x => P (i + 1) x) (fun i hi => h (i + 1) (by omega))
    refine ⟨x :: l, by simp [hl], fun i y hy => ?_⟩
    cases i with
    | zero => simp at hy; rw [← hy]; exact hx
    | succ i => exact hp i y (by simpa using hy)
theorem list3 {α : Type} {l : List α} (h : l.length = 3) : ∃ a0 a1 a2, l = [a0, a1, a2] := by
  match l, h with
  | [a0, a1, a2], _ => exact ⟨_, _, _, rfl⟩
theorem list4 {α : Type} {l : List α} (h : l.length = 4) : ∃ a0 a1 a2 a3, l = [a0, a1, a2, a3] := by
  match l, h with
  | [a0, a1, a2, a3], _ => exact ⟨_, _, _, _, rfl⟩
theorem file_struct : ∃ f0 f1 f2 : Field, Tryd.prog.underlying 57 = some (.struct #[f0, f1, f2]) ∧ oneCellFields Tryd.prog #[f0, f1, f2] = true ∧ Tryd.prog.cellsOf 57 = 3 ∧ f0.type = 9 ∧ f1.type = 3 ∧ f2.type = 30 := by
  refine ⟨_, _, _, Tryd.underlying57, ?_, ?_, rfl, rfl, rfl⟩ <;> kernel_rfl
theorem sheet_struct : ∃ f0 f1 f2 f3 : Field, Tryd.prog.underlying 38 = some (.struct #[f0, f1, f2, f3]) ∧ Tryd.prog.cellsOf 38 = 12 ∧ f0.type = 23 ∧ f1.type = 3 ∧ f2.type = 3 ∧ f3.type = 36 ∧ f0.offset = 0 ∧ f1.offset = 9 ∧ f2.offset = 10 ∧ f3.offset = 11 ∧ Tryd.prog.cellsOf 3 = 1 ∧ Tryd.prog.cellsOf 36 = 1 := by
  refine ⟨_, _, _, _, Tryd.underlying38, ?_, rfl, rfl, rfl, rfl, rfl, rfl, rfl, rfl, ?_, ?_⟩ <;> kernel_rfl
section
variable {H : Type} {enc : TypeId × Value → H} {w : World} {base : Nat} {spare : Nat → Bool} {held : Bool}
def FileIn (f : Pl.FileT) : Prop := -9223372036854775808 ≤ f.2.1 ∧ f.2.1 ≤ 9223372036854775807 ∧ 0 ≤ f.2.2 ∧ f.2.2 ≤ 4294967295
theorem file_open_cells {fuel : Nat} {cs : List Value} {x : DataW H × List MemPlace} (h : DataW.trod enc Tryd.prog w base spare held fuel 57 cs = some x) : ∃ f : Pl.FileT, cs = [strV f.1, .int .i64 f.2.1, .int .u32 f.2.2] ∧ FileIn f := by
  obtain ⟨f0, f1, f2, hs, hone, hC, t0, t1, t2⟩ := file_struct
  obtain ⟨ys, n, hcl, hyl, rfl, hf⟩ := open_cells hs hone hC h
  obtain ⟨c0, c1, c2, rfl⟩ := list3 hcl
  obtain ⟨y0, y1, y2, rfl⟩ := list3 hyl
  have g0 := hf 0 f0 c0 rfl rfl
  have g1 := hf 1 f1 c1 rfl rfl
  have g2 := hf 2 f2 c2 rfl rfl
  rw [t0] at g0; rw [t1] at g1; rw [t2] at g2
  simp only [List.getElem?_cons_zero, List.getElem?_cons_succ] at g0 g1 g2
  obtain ⟨s, e0, _, _⟩ := DataW.trod_string Tryd.underlying9 g0
  obtain ⟨n1, e1, rfl, w1⟩ := DataW.trod_int Tryd.underlying3 g1
  obtain ⟨n2, e2, rfl, w2⟩ := DataW.trod_int Tryd.underlying30 g2
  simp only [List.cons.injEq, and_true] at e0 e1 e2
  subst e0 e1 e2
  exact ⟨(s.data.toList, n1, n2), by simp, (wf_i64 w1).1, (wf_i64 w1).2, (wf_u32 w2).1, (wf_u32 w2).2⟩
/-- A row of files as an argument. -/
theorem open_files {fuel : Nat} {v : Value} {x : DataW H × List MemPlace} (h : DataW.trod enc Tryd.prog w base spare held fuel 36 [v] = some x) : ∃ fs : List Pl.FileT, Rd kFile w v fs ∧ ∀ f ∈ fs, FileIn f := by
  have hC : Tryd.prog.cellsOf 57 = 3 := by kernel_rfl
  rcases DataW.trod_slice Tryd.underlying36 h with ⟨hcs, _⟩ | ⟨a, len, cap, elems, rest, n, _, hcs, _, hb, hl, hm, hlen, hel, _, _⟩
  · simp only [List.cons.injEq, and_true] at hcs
    subst hcs
    exact ⟨[], Rd.nil _ _, fun f hf => by simp at hf⟩
  · simp only [List.cons.injEq, and_true] at hcs
    subst hcs
    obtain ⟨fs, hfl, hfs⟩ := list_of len (fun i (f : Pl.FileT) => w.cells? base (a.add (i * 3)) 3 = some [strV f.1, .int .i64 f.2.1, .int .u32 f.2.2] ∧ FileIn f) (fun i hi => by
      have h1 := hel i hi
      rw [hC, List.getElem?_eq_getElem (by omega)] at h1
      obtain ⟨c, hc, ht⟩ := Option.bind_eq_some_iff.1 h1
      obtain ⟨f, rfl, hin⟩ := file_open_cells ht
      exact ⟨f, hc, hin⟩)
    refine ⟨fs, ⟨some a, cap, by rw [hfl], by omega, ?_⟩, fun f hf => ?_⟩
    · refine Kd.F_mono (ok := fun k => k < w.heap.size) (Kd.C_F (Kd.heap_pair Kd.heap_scalar (Kd.heap_pair Kd.heap_scalar Kd.heap_scalar)) ⟨rfl, by unfold maxLen at hm; omega, fun _ => ⟨a, rfl, fun j p hp => ?_⟩⟩) (fun _ _ => trivial)
      refine ⟨[strV p.1, .int .i64 p.2.1, .int .u32 p.2.2], rfl, ⟨[strV p.1], [.int .i64 p.2.1, .int .u32 p.2.2], rfl, rfl, [.int .i64 p.2.1], [.int .u32 p.2.2], rfl, rfl, rfl⟩, fun i u hu => ?_⟩
      obtain ⟨_, _, hc⟩ := World.cells?_some (hfs j p hp).1
      have hi : i < 3 := by
        have := (List.getElem?_eq_some_iff.1 hu).1
        simpa using this
      rw [← Addr.add_add, show kFile.sz = 3 from rfl, hc i hi]
      exact hu
    · obtain ⟨i, hi, rfl⟩ := List.getElem_of_mem hf
      exact (hfs i _ (List.getElem?_eq_getElem hi)).2
theorem open_sheet {r : Reach} {b0 : Nat} {v : Value} {d : DataW H} {p : List MemPlace} (hv : Value.okWide Tryd.prog w r b0 38 v) (h : DataW.Trod enc Tryd.prog w base spare held 38 v d p) : ∃ (s : Pl.Sheet) (u : Value), v = sheetV s u ∧ Rd kFile w u s.files ∧ ShIn s := by
  obtain ⟨f0, f1, f2, f3, hs, hC, t0, t1, t2, t3, o0, o1, o2, o3, k1, k3⟩ := sheet_struct
  obtain ⟨cs, rfl, _⟩ := okWide_struct hs hv
  obtain ⟨fuel, hf⟩ := h
  obtain ⟨ys, n, _, hx, hcl, hyl, hg⟩ := DataW.trod_struct hs hf
  obtain ⟨l⟩ := cs
  have hl : l.length = 12 := by rw [hC] at hcl; exact hcl
  have g0 := hg 0 f0 rfl
  have g1 := hg 1 f1 rfl
  have g2 := hg 2 f2 rfl
  have g3 := hg 3 f3 rfl
  have kc : Tryd.prog.cellsOf 23 = 9 := by kernel_rfl
  obtain ⟨y0, y1, y2, y3, rfl⟩ := list4 (show ys.length = 4 from hyl)
  rw [t0, o0, kc] at g0; rw [t1, o1, k1] at g1; rw [t2, o2, k1] at g2; rw [t3, o3, k3] at g3
  simp only [List.getElem?_cons_zero, List.getElem?_cons_succ, List.drop_zero] at g0 g1 g2 g3
  rw [show (Value.agg { toList := l }).cells.toList = l from rfl] at g0 g1 g2 g3
  obtain ⟨c, hc, _, hcin⟩ := cfg_open_cells g0
  obtain ⟨n1, e1, _, w1⟩ := DataW.trod_int Tryd.underlying3 g1
  obtain ⟨n2, e2, _, w2⟩ := DataW.trod_int Tryd.underlying3 g2
  rw [List.drop_eq_getElem_cons (by omega)] at g3 e1 e2
  simp only [List.take_succ_cons, List.take_zero, List.cons.injEq, and_true] at g3 e1 e2
  obtain ⟨fs, hr, hfi⟩ := open_files g3
  obtain ⟨u, hu⟩ : ∃ u, l[11]'(by omega) = u := ⟨_, rfl⟩
  rw [hu] at hr
  have hl12 : l = cfgL c ++ [.int .i64 n1, .int .i64 n2, u] := by
    rw [← hc, ← e1, ← e2, ← hu]
    refine List.ext_getElem (by simp; omega) fun i h1 h2 => ?_
    by_cases hi : i < 9
    · rw [List.getElem_append_left (by simp; omega)]; simp
    · rw [List.getElem_append_right (by simp; omega)]
      rcases (show i = 9 ∨ i = 10 ∨ i = 11 by omega) with rfl | rfl | rfl <;> simp [hl]
  refine ⟨⟨c, n1, n2, fs⟩, u, ?_, hr, ⟨hcin, (wf_i64 w1).1, (wf_i64 w1).2, (wf_i64 w2).1, (wf_i64 w2).2, hfi⟩⟩
  show Value.agg l.toArray = _
  rw [hl12]
  simp [cfgL, sheetV, sheetC]
end
end Go.Proofs.YtfppbkpdpapemaaDoor
