import Derived.Test.YtfppbkpdpapemaaDoorStrKit
import Derived.Laws.Rows
import Derived.Laws.CopyOwn
/-! Sheets: their value, rows of files; creellaw20.few. -/
set_option linter.unusedSimpArgs false
set_option linter.unusedVariables false
namespace Go.Proofs.YtfppbkpdpapemaaDoor
open Go.RowKit Go.Proofs.YtfppbkpdpapemaaDoorW.PrintWords Go.Proofs.YtfppbkpdpapemaaDoorW.PrintLast Go.Proofs.YtfppbkpdpapemaaDoorW.PrintMore
attribute [local go_sem] max2_int min2_int max_two min_two

namespace Pl
abbrev FileT := List UInt8 × Int × Int
structure Sheet where
  c : Cfg
  lab : Int
  edg : Int
  files : List FileT
/-- may a file be listed under a name? -/
def fileOk (f : FileT) (n : List UInt8) : Bool := (f.1 == n) && (decide (0 ≤ f.2.1) && decide (f.2.1 ≤ 4611686018427387904))
def filesOk : List FileT → List (List UInt8) → Bool
  | [], [] => true
  | f :: fs, n :: ns => fileOk f n && filesOk fs ns
  | [], _ :: _ => false
  | _ :: _, [] => false
theorem filesOk_len : ∀ (fs : List FileT) (ns : List (List UInt8)), filesOk fs ns = true → fs.length = ns.length
  | [], [], _ => rfl
  | f :: fs, n :: ns, h => by
    simp only [filesOk, Bool.and_eq_true] at h
    simp [filesOk_len fs ns h.2]
theorem filesOk_at : ∀ (fs : List FileT) (ns : List (List UInt8)), filesOk fs ns = true → ∀ (k : Nat) (f : FileT) (n : List UInt8), fs[k]? = some f → ns[k]? = some n → fileOk f n = true
  | [], [], _, k, f, n, h1, _ => by simp at h1
  | a :: fs, b :: ns, h, k, f, n, h1, h2 => by
    simp only [filesOk, Bool.and_eq_true] at h
    cases k with
    | zero =>
      simp only [List.getElem?_cons_zero, Option.some.injEq] at h1 h2
      rw [← h1, ← h2]; exact h.1
    | succ k => exact filesOk_at fs ns h.2 k f n (by simpa using h1) (by simpa using h2)
theorem filesOk_all : ∀ (fs : List FileT) (ns : List (List UInt8)), fs.length = ns.length → (∀ (k : Nat) (f : FileT) (n : List UInt8), fs[k]? = some f → ns[k]? = some n → fileOk f n = true) → filesOk fs ns = true
  | [], [], _, _ => rfl
  | [], _ :: _, h, _ => by simp at h
  | _ :: _, [], h, _ => by simp at h
  | a :: fs, b :: ns, h, hk => by
    simp only [filesOk, Bool.and_eq_true]
    exact ⟨hk 0 a b rfl rfl, filesOk_all fs ns (by simpa using h) (fun k f n h1 h2 => hk (k + 1) f n (by simpa using h1) (by simpa using h2))⟩
/-- may a sheet be put? -/
def sheetOk (s : Sheet) : Bool := right s.c && (decide (0 ≤ s.lab) && (decide (s.lab ≤ 4294967296) && (decide (0 ≤ s.edg) && (decide (s.edg ≤ 4611686018427387904) && filesOk s.files (names s.c)))))
theorem sheetOk_iff (s : Sheet) : sheetOk s = true ↔ right s.c = true ∧ 0 ≤ s.lab ∧ s.lab ≤ 4294967296 ∧ 0 ≤ s.edg ∧ s.edg ≤ 4611686018427387904 ∧ filesOk s.files (names s.c) = true := by
  simp [sheetOk]
def fileB (f : FileT) : List UInt8 := putB f.2.1.toNat ++ fixB 4 f.2.2.toNat
theorem flatB_len (l : List FileT) (h : ∀ f ∈ l, f.2.1 ≤ 9223372036854775807) : (l.flatMap fileB).length ≤ 14 * l.length := by
  induction l with
  | nil => simp
  | cons f l ih =>
    have h1 := putB_len10 (n := f.2.1.toNat) (by have := h f (by simp); omega)
    have h2 := ih (fun x hx => h x (by simp [hx]))
    simp only [List.flatMap_cons, List.length_append, List.length_cons, fileB, fixB_len]
    omega
/-- a sheet as bytes, without their sum -/
def sheetB (s : Sheet) : List UInt8 := confB s.c ++ putB s.lab.toNat ++ putB s.edg.toNat ++ s.files.flatMap fileB
theorem sheetOk_false {s : Sheet} (h : ¬ (right s.c = true ∧ 0 ≤ s.lab ∧ s.lab ≤ 4294967296 ∧ 0 ≤ s.edg ∧ s.edg ≤ 4611686018427387904 ∧ filesOk s.files (names s.c) = true)) : sheetOk s = false := by
  rcases hh : sheetOk s with _ | _
  · rfl
  · exact absurd ((sheetOk_iff s).1 hh) h
end Pl
/-- A row of files. -/
def kFile : Kd Pl.FileT := Kd.pair kStr (Kd.pair (Kd.int .i64) (Kd.int .u32))
theorem infoFile : (Tryd.prog.info? 57).map (fun i => (i.zero, i.size, i.bytes)) = some (some (.agg #[strV [], .int .i64 0, .int .u32 0]), 3, 32) := by kernel_rfl
theorem kFile_sz : kFile.sz = 3 := rfl
/-- A sheet's cells, its files' row being v. -/
abbrev sheetC (s : Pl.Sheet) (v : Value) : Array Value := #[.int .u8 (s.c.fmt.toNat : Int), .bool s.c.num, .bool s.c.skip, .bool s.c.both, .bool s.c.loops, .bool s.c.back, .int .i64 s.c.bud, .int .i64 s.c.fan, .int .i64 s.c.sha, .int .i64 s.lab, .int .i64 s.edg, v]
abbrev sheetV (s : Pl.Sheet) (v : Value) : Value := .agg (sheetC s v)

set_option maxRecDepth 100000 in
set_option maxHeartbeats 2000000 in
theorem few20_any (s : Pl.Sheet) (v : Value) (w : World) (hv : Rd kFile w v s.files) : Calls Tryd.prog 13 #[sheetV s v] w fun e w' => ∃ v', e = .returned (sheetV s v') ∧ Rd kFile w' v' (s.files.take 40) ∧ Below w.heap.size w w' := by
  have HV := Lib.hid hv
  obtain ⟨A, c, rfl, hc, hF⟩ := hv
  have HF := Lib.hid hF
  clear hF
  obtain ⟨i0, hi0, _⟩ := Option.map_eq_some_iff.1 infoFile
  obtain ⟨hto, hV⟩ := row_to 36 57 Tryd.underlying36 hi0 HF.out hc (min s.files.length 40) (by omega)
  replace hto := hto .i64 ((min s.files.length 40 : Nat) : Int) rfl
  have hm := Kd.F_max HF.out
  clear hi0
  go_enter Tryd.func13, Tryd.ntmps13
  go_wp2_with fail
  all_goals
    rename_i hcase
    (try simp only [Exit.inBlock, Exit.then])
    refine bodyPost_ret (results_cell_row rfl _ _ (w.heap.size + 1) 38 _ (0, 0) _ rfl (by rw [← World.size_alloc w]; exact heap_alloc_new _ _) Tryd.underlying38 rfl (show _ = some 12 by kernel_rfl)) rfl ?_
    refine ⟨_, rfl, ?_, below_alloc (below_alloc (Below.refl _ _) _) _⟩
    refine Rd.below ?_ (below_alloc (below_alloc (Below.refl _ _) _) _)
  · have h40 : min s.files.length 40 = 40 := by omega
    rw [h40] at hV
    exact Kd.V_mono hV fun _ _ => trivial
  · rw [List.take_of_length_le (by omega)]
    exact HV.out
end Go.Proofs.YtfppbkpdpapemaaDoor
