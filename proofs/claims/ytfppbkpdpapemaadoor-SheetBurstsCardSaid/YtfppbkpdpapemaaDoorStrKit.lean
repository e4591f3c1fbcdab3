import Derived.Test.YtfppbkpdpapemaaDoorBase
import Derived.Test.YtfppbkpdpapemaaDoorCfgKit
import Derived.Test.YtfppbkpdpapemaaDoorIt
import Derived.Laws.Rows
import Derived.Laws.CopyOwn
/-! Rows of strings. -/
set_option linter.unusedSimpArgs false
set_option linter.unusedVariables false
namespace Go.Proofs.YtfppbkpdpapemaaDoor
open Go.RowKit Go.Proofs.YtfppbkpdpapemaaDoorW.PrintWords Go.Proofs.YtfppbkpdpapemaaDoorW.PrintLast Go.Proofs.YtfppbkpdpapemaaDoorW.PrintMore
/-- A string's value. -/
abbrev strV (s : List UInt8) : Value := .string ⟨s.toArray⟩
/-- A string's cell. -/
def kStr : Kd (List UInt8) := Kd.scalar strV (fun _ => rfl)
theorem infoStr : (Tryd.prog.info? 9).map (fun i => (i.zero, i.size, i.bytes)) = some (some (strV []), 1, 16) := by kernel_rfl
theorem kStr_FK {w : World} {ok : Nat → Prop} (s : List UInt8) : Kd.FK kStr w ok s [strV s] := fun _ _ => rfl
theorem kStr_cell {w : World} {A : Option Addr} {n : Nat} {ok : Nat → Prop} {xs : List (List UInt8)} (h : Kd.F kStr w ok A n xs) (i : Nat) (x : List UInt8) (hx : xs[i]? = some x) : ∃ ad, A = some ad ∧ w.cell? (ad.add i) = some (strV x) := by
  obtain ⟨ad, cs, he, hK, hc⟩ := row_get h i x hx
  have hk : cs = [strV x] := Kd.FK_now hK
  subst hk
  exact ⟨ad, he, by have := hc 0 _ rfl; simpa [kStr, Kd.scalar] using this⟩
/-- A literal of strings. -/
theorem lit_ownS (w : World) (base : Nat) (xs : List (List UInt8)) (cs : List Value) (hcs : cs = xs.map strV) (hb : base ≤ w.heap.size) (hm : xs.length ≤ 1099511627776) :
    Own kStr 9 (w.alloc (.cells cs.toArray 9)) base (.slice (some ⟨w.heap.size, 0, none⟩) xs.length xs.length) xs := by
  subst hcs
  refine Kd.R_N ⟨fun k hk => ?_, _, World.ownsRow_lit (size := 1) w (xs.map strV).toArray xs.length hb (by unfold maxLen; omega) (by simp), by simp [kStr, Kd.scalar], fun j x hx => ?_⟩
  · have : w.heap.size = k := by simpa [Value.ownBlock] using hk
    omega
  · show ((xs.map strV).drop (j * 1)).take 1 = [strV x]
    obtain ⟨hj, hx'⟩ := List.getElem?_eq_some_iff.1 hx
    rw [Nat.mul_one, List.drop_eq_getElem_cons (by simpa using hj)]
    simp [hx']
section
variable {ops : Array Oper} {rest : List Oper} {o : Oper} {a : Act} {Q : Exit → Act → World → Prop} {Kc : Act → World → Prop} {w0 W : World}
/-- append(v, s) of a string. -/
theorem appS (base : Nat) (hgd : o.guard = none) (s x : Operand) (ho : o.op = .call { callee := .builtin .append, args := #[s, x], argTypes := #[25, 25] })
    (v : Value) (xs : List (List UInt8)) (c : List UInt8) (u : Value) (hu : u = strV c) (hs : a.eval s = v) (hx : a.eval x = .slice (some ⟨W.heap.size, 0, none⟩) 1 1)
    (HO : Own kStr 9 W base v xs) (HB : Below base w0 W) (hbase : base ≤ W.heap.size) (hl : xs.length ≤ 4398046511104)
    (h : ∀ v1 w1, Own kStr 9 w1 base v1 (xs ++ [c]) → Below base w0 w1 → W.grownBy w1 v.ownBlock → (v1.ownBlock = v.ownBlock ∨ ∃ b, v1.ownBlock = some b ∧ W.heap.size ≤ b) → wpList Tryd.prog ops Q rest (a.put o.dst v1) w1) :
    wpList Tryd.prog ops Q (o :: rest) a (W.alloc (.cells #[u] 9)) := by
  subst hu
  exact Kd.N_append kStr base hgd s x 25 9 (strV []) 16 ho Tryd.underlying25 infoStr rfl (by decide) (by omega) v xs c [strV c] _ (fun _ => False) hs hx (kStr_FK c) (fun _ h => h.elim) (fun k hk => Nat.le_trans hbase hk) HO HB hbase (by omega) h
end
theorem strS_form {W : World} {e base : Nat} {v : Value} {xs : List (List UInt8)} (h : Own kStr e W base v xs) (hp : 0 < xs.length) : ∃ g cap, v = .slice (some ⟨g, 0, none⟩) xs.length cap ∧ base ≤ g ∧ g < W.heap.size ∧ ∀ i x, xs[i]? = some x → W.cell? ⟨g, i, none⟩ = some (strV x) := by
  obtain ⟨g, cap, hv, h1, h2, _⟩ := Kd.N_form h hp
  subst hv
  refine ⟨g, cap, rfl, h1, h2, fun i x hx => ?_⟩
  obtain ⟨ad, he, hc⟩ := kStr_cell (Kd.N_F h) i x hx
  injection he with he
  subst he
  rw [add_plain] at hc
  exact hc
theorem str_app (a b : List UInt8) : (⟨a.toArray⟩ ++ ⟨b.toArray⟩ : ByteArray) = ⟨(a ++ b).toArray⟩ := by
  rw [ByteArray.mk_append_mk]
theorem digs_lib {n : Nat} (h : n < 100) : Lib.decDigits n = Pl.digs n := by
  by_cases h1 : n < 10
  · rw [Lib.decDigits, dif_pos h1, Pl.digs, if_pos h1]
  · rw [Lib.decDigits, dif_neg h1, Lib.decDigits, dif_pos (by omega), Pl.digs, if_neg h1]; rfl
theorem own_RS {w : World} {e base : Nat} {v : Value} {xs : List (List UInt8)} {ok : Nat → Prop} (h : Kd.N kStr e w base ok v xs) : kStr.R e w base ok v xs := by
  obtain ⟨h0, rows, hl, ⟨_, inner, ho, hr⟩, hf⟩ := h
  refine ⟨h0, inner, by rw [← hl]; exact ho, by rw [← hl]; exact hr.1, fun j x hx => ?_⟩
  have hj : j < rows.length := by rw [hl]; exact (List.getElem?_eq_some_iff.1 hx).1
  have h1 := hr.2 j rows[j] (by rw [List.getElem?_eq_getElem hj])
  have h2 : rows[j] = [strV x] := Kd.FK_now (hf j x rows[j] hx (by rw [List.getElem?_eq_getElem hj]))
  show (inner.drop (j * 1)).take 1 = [strV x]
  rw [← h2]
  exact h1.1
/-- A row of strings that something else has grown beside. -/
theorem ownS_grown {w w1 : World} {e base : Nat} {v : Value} {xs : List (List UInt8)} (h : Own kStr e w base v xs) {row : Option Nat} (hg : w.grownBy w1 row) (hne : row ≠ v.ownBlock) : Own kStr e w1 base v xs := Kd.R_N (Kd.R_grown1 (own_RS h) rfl hg hne)
end Go.Proofs.YtfppbkpdpapemaaDoor
/-! Sheets: their value, rows of files; creellaw20.few. -/
set_option linter.unusedSimpArgs false
set_option linter.unusedVariables false
namespace Go.Proofs.YtfppbkpdpapemaaDoor
open Go.RowKit Go.Proofs.YtfppbkpdpapemaaDoorW.PrintWords Go.Proofs.YtfppbkpdpapemaaDoorW.PrintLast Go.Proofs.YtfppbkpdpapemaaDoorW.PrintMore
attribute [local go_sem] max2_int min2_int max_two min_two

namespace Pl
abbrev FileT := List UInt8 × Int × Int
structure Sheet where
  c : Cfg
  lab : Int
  edg : Int
  files : List FileT
/-- may a file be listed under a name? -/
def fileOk (f : FileT) (n : List UInt8) : Bool := (f.1 == n) && (decide (0 ≤ f.2.1) && decide (f.2.1 ≤ 4611686018427387904))
def filesOk : List FileT → List (List UInt8) → Bool
  | [], [] => true
  | f :: fs, n :: ns => fileOk f n && filesOk fs ns
  | [], _ :: _ => false
  | _ :: _, [] => false
theorem filesOk_len : ∀ (fs : List FileT) (ns : List (List UInt8)), filesOk fs ns = true → fs.length = ns.length
  | [], [], _ => rfl
  | f :: fs, n :: ns, h => by
    simp only [filesOk, Bool.and_eq_true] at h
    simp [filesOk_len fs ns h.2]
theorem filesOk_at : ∀ (fs : List FileT) (ns : List (List UInt8)), filesOk fs ns = true → ∀ (k : Nat) (f : FileT) (n : List UInt8), fs[k]? = some f → ns[k]? = some n → fileOk f n = true
  | [], [], _, k, f, n, h1, _ => by simp at h1
  | a :: fs, b :: ns, h, k, f, n, h1, h2 => by
    simp only [filesOk, Bool.and_eq_true] at h
    cases k with
    | zero =>
      simp only [List.getElem?_cons_zero, Option.some.injEq] at h1 h2
      rw [← h1, ← h2]; exact h.1
    | succ k => exact filesOk_at fs ns h.2 k f n (by simpa using h1) (by simpa using h2)
theorem filesOk_all : ∀ (fs : List FileT) (ns : List (List UInt8)), fs.length = ns.length → (∀ (k : Nat) (f : FileT) (n : List UInt8), fs[k]? = some f → ns[k]? = some n → fileOk f n = true) → filesOk fs ns = true
  | [], [], _, _ => rfl
  | [], _ :: _, h, _ => by simp at h
  | _ :: _, [], h, _ => by simp at h
  | a :: fs, b :: ns, h, hk => by
    simp only [filesOk, Bool.and_eq_true]
    exact ⟨hk 0 a b rfl rfl, filesOk_all fs ns (by simpa using h) (fun k f n h1 h2 => hk (k + 1) f n (by simpa using h1) (by simpa using h2))⟩
/-- may a sheet be put? -/
def sheetOk (s : Sheet) : Bool := right s.c && (decide (0 ≤ s.lab) && (decide (s.lab ≤ 4294967296) && (decide (0 ≤ s.edg) && (decide (s.edg ≤ 4611686018427387904) && filesOk s.files (names s.c)))))
theorem sheetOk_iff (s : Sheet) : sheetOk s = true ↔ right s.c = true ∧ 0 ≤ s.lab ∧ s.lab ≤ 4294967296 ∧ 0 ≤ s.edg ∧ s.edg ≤ 4611686018427387904 ∧ filesOk s.files (names s.c) = true := by
  simp [sheetOk]
def fileB (f : FileT) : List UInt8 := putB f.2.1.toNat ++ fixB 4 f.2.2.toNat
theorem flatB_len (l : List FileT) (h : ∀ f ∈ l, f.2.1 ≤ 9223372036854775807) : (l.flatMap fileB).length ≤ 14 * l.length := by
  induction l with
  | nil => simp
  | cons f l ih =>
    have h1 := putB_len10 (n := f.2.1.toNat) (by have := h f (by simp); omega)
    have h2 := ih (fun x hx => h x (by simp [hx]))
    simp only [List.flatMap_cons, List.length_append, List.length_cons, fileB, fixB_len]
    omega
/-- a sheet as bytes, without their sum -/
def sheetB (s : Sheet) : List UInt8 := confB s.c ++ putB s.lab.toNat ++ putB s.edg.toNat ++ s.files.flatMap fileB
theorem sheetOk_false {s : Sheet} (h : ¬ (right s.c = true ∧ 0 ≤ s.lab ∧ s.lab ≤ 4294967296 ∧ 0 ≤ s.edg ∧ s.edg ≤ 4611686018427387904 ∧ filesOk s.files (names s.c) = true)) : sheetOk s = false := by
  rcases hh : sheetOk s with _ | _
  · rfl
  · exact absurd ((sheetOk_iff s).1 hh) h
end Pl
/-- A row of files. -/
def kFile : Kd Pl.FileT := Kd.pair kStr (Kd.pair (Kd.int .i64) (Kd.int .u32))
theorem infoFile : (Tryd.prog.info? 57).map (fun i => (i.zero, i.size, i.bytes)) = some (some (.agg #[strV [], .int .i64 0, .int .u32 0]), 3, 32) := by kernel_rfl
theorem kFile_sz : kFile.sz = 3 := rfl
/-- A sheet's cells, its files' row being v. -/
abbrev sheetC (s : Pl.Sheet) (v : Value) : Array Value := #[.int .u8 (s.c.fmt.toNat : Int), .bool s.c.num, .bool s.c.skip, .bool s.c.both, .bool s.c.loops, .bool s.c.back, .int .i64 s.c.bud, .int .i64 s.c.fan, .int .i64 s.c.sha, .int .i64 s.lab, .int .i64 s.edg, v]
abbrev sheetV (s : Pl.Sheet) (v : Value) : Value := .agg (sheetC s v)

set_option maxRecDepth 100000 in
set_option maxHeartbeats 2000000 in
theorem few20_any (s : Pl.Sheet) (v : Value) (w : World) (hv : Rd kFile w v s.files) : Calls Tryd.prog 13 #[sheetV s v] w fun e w' => ∃ v', e = .returned (sheetV s v') ∧ Rd kFile w' v' (s.files.take 40) ∧ Below w.heap.size w w' := by
  have HV := Lib.hid hv
  obtain ⟨A, c, rfl, hc, hF⟩ := hv
  have HF := Lib.hid hF
  clear hF
  obtain ⟨i0, hi0, _⟩ := Option.map_eq_some_iff.1 infoFile
  obtain ⟨hto, hV⟩ := row_to 36 57 Tryd.underlying36 hi0 HF.out hc (min s.files.length 40) (by omega)
  replace hto := hto .i64 ((min s.files.length 40 : Nat) : Int) rfl
  have hm := Kd.F_max HF.out
  clear hi0
  go_enter Tryd.func13, Tryd.ntmps13
  go_wp2_with fail
  all_goals
    rename_i hcase
    (try simp only [Exit.inBlock, Exit.then])
    refine bodyPost_ret (results_cell_row rfl _ _ (w.heap.size + 1) 38 _ (0, 0) _ rfl (by rw [← World.size_alloc w]; exact heap_alloc_new _ _) Tryd.underlying38 rfl (show _ = some 12 by kernel_rfl)) rfl ?_
    refine ⟨_, rfl, ?_, below_alloc (below_alloc (Below.refl _ _) _) _⟩
    refine Rd.below ?_ (below_alloc (below_alloc (Below.refl _ _) _) _)
  · have h40 : min s.files.length 40 = 40 := by omega
    rw [h40] at hV
    exact Kd.V_mono hV fun _ _ => trivial
  · rw [List.take_of_length_le (by omega)]
    exact HV.out
end Go.Proofs.YtfppbkpdpapemaaDoor
