import Derived.Test.YtfppbkpdpapemaaDoorPlain
import Derived.Test.YtfppbkpdpapemaaDoorRowKit
import Derived.Lib.SmallJoins
/-! Plain words: numbers as bytes, Configs, notes. No program in sight. -/
namespace Go.Proofs.YtfppbkpdpapemaaDoor.Pl
/-- a number, as few bytes as there may be -/
def putB (n : Nat) : List UInt8 := if _h : n < 128 then [UInt8.ofNat n] else UInt8.ofNat (n % 128 + 128) :: putB (n / 128)
termination_by n
decreasing_by omega
theorem putB_small {n : Nat} (h : n < 128) : putB n = [UInt8.ofNat n] := by rw [putB, dif_pos h]
theorem putB_big {n : Nat} (h : ¬ n < 128) : putB n = UInt8.ofNat (n % 128 + 128) :: putB (n / 128) := by rw [putB, dif_neg h]
theorem ofNat_inj {a b : Nat} (ha : a < 256) (hb : b < 256) (h : UInt8.ofNat a = UInt8.ofNat b) : a = b := by
  have := congrArg UInt8.toNat h
  simp at this
  omega
theorem putB_inj : ∀ (n m : Nat) (r s : List UInt8), putB n ++ r = putB m ++ s → n = m ∧ r = s := by
  intro n
  induction n using Nat.strongRecOn with
  | _ n ih =>
    intro m r s h
    by_cases hn : n < 128 <;> by_cases hm : m < 128
    · rw [putB_small hn, putB_small hm] at h
      simp only [List.cons_append, List.nil_append, List.cons.injEq] at h
      exact ⟨ofNat_inj (by omega) (by omega) h.1, h.2⟩
    · rw [putB_small hn, putB_big hm] at h
      simp only [List.cons_append, List.nil_append, List.cons.injEq] at h
      have := ofNat_inj (by omega) (by omega) h.1
      omega
    · rw [putB_big hn, putB_small hm] at h
      simp only [List.cons_append, List.nil_append, List.cons.injEq] at h
      have := ofNat_inj (by omega) (by omega) h.1
      omega
    · rw [putB_big hn, putB_big hm] at h
      simp only [List.cons_append, List.cons.injEq] at h
      have h1 := ofNat_inj (by omega) (by omega) h.1
      obtain ⟨h2, h3⟩ := ih (n / 128) (by omega) (m / 128) r s h.2
      exact ⟨by omega, h3⟩
theorem putB_len : ∀ (k n : Nat), n < 128 ^ k → 1 ≤ k → (putB n).length ≤ k := by
  intro k
  induction k with
  | zero => intro n _ h; omega
  | succ k ih =>
    intro n h _
    by_cases hn : n < 128
    · rw [putB_small hn]; simp
    · rw [putB_big hn]
      rcases k with _ | k
      · simp at h; omega
      · have := ih (n / 128) (by rw [Nat.pow_succ] at h; omega) (by omega)
        simp only [List.length_cons]
        omega
theorem putB_len10 {n : Nat} (h : n < 18446744073709551616) : (putB n).length ≤ 10 := putB_len 10 n (by omega) (by omega)
/-- How a text is taken. -/
structure Cfg where
  fmt : UInt8
  num : Bool
  skip : Bool
  both : Bool
  loops : Bool
  back : Bool
  bud : Int
  fan : Int
  sha : Int
deriving DecidableEq
def within (n lo hi : Int) : Bool := decide (lo ≤ n) && decide (n ≤ hi)
def fmtOk (c : Cfg) : Bool := c.fmt == 1 || c.fmt == 2 || (c.fmt == 3 && c.num)
/-- may a text be taken so -/
def right (c : Cfg) : Bool := fmtOk c && within c.bud 2 4096 && within c.fan 2 (min 16 c.bud) && within c.sha 1 16
theorem right_bounds {c : Cfg} (h : right c = true) : 2 ≤ c.bud ∧ c.bud ≤ 4096 ∧ 2 ≤ c.fan ∧ c.fan ≤ 16 ∧ 1 ≤ c.sha ∧ c.sha ≤ 16 := by
  simp only [right, within, Bool.and_eq_true, decide_eq_true_eq] at h
  omega
def flag (b : Bool) (f : UInt8) : UInt8 := if b then f else 0
def flags (c : Cfg) : UInt8 := flag c.num 1 ||| flag c.skip 2 ||| flag c.both 4 ||| flag c.loops 8 ||| flag c.back 16
/-- the bytes of a Config -/
def confB (c : Cfg) : List UInt8 := [c.fmt, flags c] ++ putB c.bud.toNat ++ putB c.fan.toNat ++ putB c.sha.toNat
def noteB (c : Cfg) (n s : Nat) : List UInt8 := confB c ++ putB n ++ fixB 4 s
theorem flags_inj : ∀ a1 a2 a3 a4 a5 b1 b2 b3 b4 b5 : Bool, (flag a1 1 ||| flag a2 2 ||| flag a3 4 ||| flag a4 8 ||| flag a5 16) = (flag b1 1 ||| flag b2 2 ||| flag b3 4 ||| flag b4 8 ||| flag b5 16) → a1 = b1 ∧ a2 = b2 ∧ a3 = b3 ∧ a4 = b4 ∧ a5 = b5 := by decide
theorem fixB4_inj {s t : Nat} (hs : s < 4294967296) (ht : t < 4294967296) (h : fixB 4 s = fixB 4 t) : s = t := by
  simp only [fixB, byteAt, List.cons.injEq, and_true] at h
  obtain ⟨h3, h2, h1, h0⟩ := h
  have e3 := congrArg UInt8.toNat h3
  have e2 := congrArg UInt8.toNat h2
  have e1 := congrArg UInt8.toNat h1
  have e0 := congrArg UInt8.toNat h0
  simp at e3 e2 e1 e0
  omega
theorem noteB_inj {a b : Cfg} (ha : right a = true) (hb : right b = true) {n m s t : Nat} (hs : s < 4294967296) (ht : t < 4294967296) (h : noteB a n s = noteB b m t) : a = b ∧ n = m ∧ s = t := by
  have ba := right_bounds ha
  have bb := right_bounds hb
  obtain ⟨af, a1, a2, a3, a4, a5, ab, an, as_⟩ := a
  obtain ⟨bf, b1, b2, b3, b4, b5, bb', bn, bs⟩ := b
  simp only [noteB, confB, flags, List.append_assoc, List.cons_append, List.nil_append, List.cons.injEq] at h ba bb
  obtain ⟨h0, h1, h2⟩ := h
  obtain ⟨e1, h3⟩ := putB_inj _ _ _ _ h2
  obtain ⟨e2, h4⟩ := putB_inj _ _ _ _ h3
  obtain ⟨e3, h5⟩ := putB_inj _ _ _ _ h4
  obtain ⟨e4, h6⟩ := putB_inj _ _ _ _ h5
  have e5 := fixB4_inj hs ht h6
  obtain ⟨f1, f2, f3, f4, f5⟩ := flags_inj _ _ _ _ _ _ _ _ _ _ h1
  obtain rfl : ab = bb' := by omega
  obtain rfl : an = bn := by omega
  obtain rfl : as_ = bs := by omega
  subst h0 f1 f2 f3 f4 f5
  exact ⟨rfl, e4, e5⟩
/-- a digit's name -/
def digs (n : Nat) : List UInt8 := if n < 10 then [UInt8.ofNat (48 + n)] else [UInt8.ofNat (48 + n / 10), UInt8.ofNat (48 + n % 10)]
/-- the names of the files of a Config that is right -/
def namesOf (c : Cfg) : List (List UInt8) :=
  [[108, 97, 98, 101, 108, 115]] ++ (List.range c.sha.toNat).map (fun i => [115, 46] ++ digs i) ++ (if c.back then (List.range c.sha.toNat).map (fun i => [116, 46] ++ digs i) else [])
def names (c : Cfg) : List (List UInt8) := if right c then namesOf c else []
theorem names_right {c : Cfg} (h : right c = true) : names c = namesOf c := by simp [names, h]
theorem names_wrong {c : Cfg} (h : right c = false) : names c = [] := by simp [names, h]
end Go.Proofs.YtfppbkpdpapemaaDoor.Pl
/-! A Config: its value, opened and shut for the rows. -/
namespace Go.Proofs.YtfppbkpdpapemaaDoor
open Go.RowKit Go.ChangeShapes Go.WideShapes Go.Deep Go.Proofs.YtfppbkpdpapemaaDoorW.PrintWords Go.Proofs.YtfppbkpdpapemaaDoorW.PrintLast Go.Proofs.YtfppbkpdpapemaaDoorW.PrintMore
/-- The value of a Config. -/
abbrev cfgV (c : Pl.Cfg) : Value := .agg #[.int .u8 (c.fmt.toNat : Int), .bool c.num, .bool c.skip, .bool c.both, .bool c.loops, .bool c.back, .int .i64 c.bud, .int .i64 c.fan, .int .i64 c.sha]
def cfgL (c : Pl.Cfg) : List Value := [.int .u8 (c.fmt.toNat : Int), .bool c.num, .bool c.skip, .bool c.both, .bool c.loops, .bool c.back, .int .i64 c.bud, .int .i64 c.fan, .int .i64 c.sha]
/-- its datum -/
def cfgD {H : Type} (c : Pl.Cfg) : DataW H := .agg [.lit (.int .u8 (c.fmt.toNat : Int)), .lit (.bool c.num), .lit (.bool c.skip), .lit (.bool c.both), .lit (.bool c.loops), .lit (.bool c.back), .lit (.int .i64 c.bud), .lit (.int .i64 c.fan), .lit (.int .i64 c.sha)]
/-- its numbers are int's -/
structure CfgIn (c : Pl.Cfg) : Prop where
  b0 : -9223372036854775808 ≤ c.bud
  b1 : c.bud ≤ 9223372036854775807
  f0 : -9223372036854775808 ≤ c.fan
  f1 : c.fan ≤ 9223372036854775807
  s0 : -9223372036854775808 ≤ c.sha
  s1 : c.sha ≤ 9223372036854775807
theorem list9 {α : Type} {l : List α} (h : l.length = 9) : ∃ a0 a1 a2 a3 a4 a5 a6 a7 a8, l = [a0, a1, a2, a3, a4, a5, a6, a7, a8] := by
  match l, h with
  | [a0, a1, a2, a3, a4, a5, a6, a7, a8], _ => exact ⟨_, _, _, _, _, _, _, _, _, rfl⟩
section
variable {H : Type} {enc : TypeId × Value → H} {P : Program} {w : World} {base : Nat} {spare : Nat → Bool} {held : Bool}
/-- A struct of fields of one cell each, as cells: each with its reading. -/
theorem open_cells {t : TypeId} {fs : Array Field} {fuel : Nat} {cs : List Value} {x : DataW H × List MemPlace} (hs : P.underlying t = some (.struct fs)) (hone : oneCellFields P fs = true) (hC : P.cellsOf t = fs.size) (h : DataW.trod enc P w base spare held fuel t cs = some x) :
    ∃ (ys : List (DataW H × List MemPlace)) (n : Nat), cs.length = fs.size ∧ ys.length = fs.size ∧ x = (.agg (ys.map (·.1)), ys.flatMap (·.2)) ∧ ∀ (i : Nat) (f : Field) (c : Value), fs[i]? = some f → cs[i]? = some c → DataW.trod enc P w base spare held n f.type [c] = ys[i]? := by
  obtain ⟨ys, n, _, hx, hl, hyl, hf⟩ := DataW.trod_struct hs h
  refine ⟨ys, n, hl.trans hC, hyl, hx, fun i f c hi hc => ?_⟩
  obtain ⟨ho, hk⟩ := hone_of hone i f hi
  have h1 := hf i f hi
  rw [ho, hk] at h1
  obtain ⟨hlt, hci⟩ := List.getElem?_eq_some_iff.1 hc
  rw [List.drop_eq_getElem_cons hlt, hci] at h1
  simpa using h1
/-- The other way about. -/
theorem shut_cells {t : TypeId} {fs : Array Field} {n : Nat} {cs : List Value} {ys : List (DataW H × List MemPlace)} (hs : P.underlying t = some (.struct fs)) (hone : oneCellFields P fs = true) (hC : P.cellsOf t = fs.size) (hl : cs.length = fs.size) (hyl : ys.length = fs.size)
    (h : ∀ (i : Nat) (f : Field) (c : Value) (y : DataW H × List MemPlace), fs[i]? = some f → cs[i]? = some c → ys[i]? = some y → DataW.trod enc P w base spare held n f.type [c] = some y) :
    DataW.trod enc P w base spare held (n + 1) t cs = some (.agg (ys.map (·.1)), ys.flatMap (·.2)) := by
  refine Go.ChangeShapes.trod_struct_mk hs (hl.trans hC.symm) ?_
  have key : ∀ (m : Nat) (gs : List Field) (cs' : List Value) (zs : List (DataW H × List MemPlace)), gs.length = zs.length → (∀ (i : Nat) (f : Field), gs[i]? = some f → ∃ y, zs[i]? = some y ∧ DataW.trod enc P w base spare held n f.type ((cs.drop f.offset).take (P.cellsOf f.type)) = some y) →
      gs.mapM (fun f => DataW.trod enc P w base spare held n f.type ((cs.drop f.offset).take (P.cellsOf f.type))) = some zs := by
    intro _ gs
    induction gs with
    | nil => intro _ zs hz _; simp at hz; have : zs = [] := List.eq_nil_of_length_eq_zero hz.symm; subst this; rfl
    | cons g gs ih =>
      intro cs' zs hz hg
      rcases zs with _ | ⟨z, zs⟩
      · simp at hz
      · obtain ⟨y, hy, ht⟩ := hg 0 g rfl
        simp at hy
        subst hy
        have := ih cs' zs (by simpa using hz) (fun i f hi => by simpa using hg (i + 1) f (by simpa using hi))
        simp [List.mapM_cons, ht, this]
  refine key 0 fs.toList cs ys (by simpa using hyl.symm) fun i f hi => ?_
  have hi' : fs[i]? = some f := by simpa using hi
  obtain ⟨ho, hk⟩ := hone_of hone i f hi'
  have hlt : i < fs.size := (Array.getElem?_eq_some_iff.1 hi').1
  refine ⟨ys[i]'(by omega), List.getElem?_eq_getElem (by omega), ?_⟩
  have := h i f (cs[i]'(by omega)) (ys[i]'(by omega)) hi' (List.getElem?_eq_getElem (by omega)) (List.getElem?_eq_getElem (by omega))
  have e : (cs.drop f.offset).take (P.cellsOf f.type) = [cs[i]'(by omega)] := by
    rw [ho, hk, List.drop_eq_getElem_cons (by omega)]
    rfl
  rw [e]
  exact this
end
theorem cfg_struct : ∃ f0 f1 f2 f3 f4 f5 f6 f7 f8 : Field, Tryd.prog.underlying 23 = some (.struct #[f0, f1, f2, f3, f4, f5, f6, f7, f8]) ∧ oneCellFields Tryd.prog #[f0, f1, f2, f3, f4, f5, f6, f7, f8] = true ∧ Tryd.prog.cellsOf 23 = 9 ∧ f0.type = 5 ∧ f1.type = 4 ∧ f2.type = 4 ∧ f3.type = 4 ∧ f4.type = 4 ∧ f5.type = 4 ∧ f6.type = 3 ∧ f7.type = 3 ∧ f8.type = 3 := by
  refine ⟨_, _, _, _, _, _, _, _, _, Tryd.underlying23, ?_, ?_, rfl, rfl, rfl, rfl, rfl, rfl, rfl, rfl, rfl⟩ <;> kernel_rfl
section
variable {H : Type} {enc : TypeId × Value → H} {w : World} {base : Nat} {spare : Nat → Bool} {held : Bool}
theorem cfg_open_cells {fuel : Nat} {cs : List Value} {x : DataW H × List MemPlace} (h : DataW.trod enc Tryd.prog w base spare held fuel 23 cs = some x) : ∃ c : Pl.Cfg, cs = cfgL c ∧ x = (cfgD c, []) ∧ CfgIn c := by
  obtain ⟨f0, f1, f2, f3, f4, f5, f6, f7, f8, hs, hone, hC, t0, t1, t2, t3, t4, t5, t6, t7, t8⟩ := cfg_struct
  obtain ⟨ys, n, hcl, hyl, rfl, hf⟩ := open_cells hs hone hC h
  obtain ⟨c0, c1, c2, c3, c4, c5, c6, c7, c8, rfl⟩ := list9 hcl
  obtain ⟨y0, y1, y2, y3, y4, y5, y6, y7, y8, rfl⟩ := list9 hyl
  have g0 := hf 0 f0 c0 rfl rfl
  have g1 := hf 1 f1 c1 rfl rfl
  have g2 := hf 2 f2 c2 rfl rfl
  have g3 := hf 3 f3 c3 rfl rfl
  have g4 := hf 4 f4 c4 rfl rfl
  have g5 := hf 5 f5 c5 rfl rfl
  have g6 := hf 6 f6 c6 rfl rfl
  have g7 := hf 7 f7 c7 rfl rfl
  have g8 := hf 8 f8 c8 rfl rfl
  rw [t0] at g0; rw [t1] at g1; rw [t2] at g2; rw [t3] at g3; rw [t4] at g4; rw [t5] at g5; rw [t6] at g6; rw [t7] at g7; rw [t8] at g8
  simp only [List.getElem?_cons_zero, List.getElem?_cons_succ] at g0 g1 g2 g3 g4 g5 g6 g7 g8
  obtain ⟨n0, e0, rfl, w0⟩ := DataW.trod_int Tryd.underlying5 g0
  obtain ⟨b1, e1, rfl⟩ := DataW.trod_bool Tryd.underlying4 g1
  obtain ⟨b2, e2, rfl⟩ := DataW.trod_bool Tryd.underlying4 g2
  obtain ⟨b3, e3, rfl⟩ := DataW.trod_bool Tryd.underlying4 g3
  obtain ⟨b4, e4, rfl⟩ := DataW.trod_bool Tryd.underlying4 g4
  obtain ⟨b5, e5, rfl⟩ := DataW.trod_bool Tryd.underlying4 g5
  obtain ⟨n6, e6, rfl, w6⟩ := DataW.trod_int Tryd.underlying3 g6
  obtain ⟨n7, e7, rfl, w7⟩ := DataW.trod_int Tryd.underlying3 g7
  obtain ⟨n8, e8, rfl, w8⟩ := DataW.trod_int Tryd.underlying3 g8
  simp only [List.cons.injEq, and_true] at e0 e1 e2 e3 e4 e5 e6 e7 e8
  subst e0 e1 e2 e3 e4 e5 e6 e7 e8
  obtain ⟨l0, h0⟩ := wf_u8 w0
  have q : (((UInt8.ofNat n0.toNat).toNat : Nat) : Int) = n0 := by simp; omega
  refine ⟨⟨UInt8.ofNat n0.toNat, b1, b2, b3, b4, b5, n6, n7, n8⟩, ?_, ?_, ⟨(wf_i64 w6).1, (wf_i64 w6).2, (wf_i64 w7).1, (wf_i64 w7).2, (wf_i64 w8).1, (wf_i64 w8).2⟩⟩
  · simp only [cfgL, q]
  · rw [show cfgD (H := H) ⟨UInt8.ofNat n0.toNat, b1, b2, b3, b4, b5, n6, n7, n8⟩ = _ from rfl]
    simp only [List.map_cons, List.map_nil, List.flatMap_cons, List.flatMap_nil, List.append_nil, cfgD, q]
theorem i64_wf {n : Int} (h0 : -9223372036854775808 ≤ n) (h1 : n ≤ 9223372036854775807) : (Lit.int .i64 n).wf = true := by
  have h3 : IntKind.min .i64 = -9223372036854775808 := by decide
  have h4 : IntKind.max .i64 = 9223372036854775807 := by decide
  simp [Lit.wf, h3, h4, h0, h1]
theorem u8_wf (c : UInt8) : (Lit.int .u8 (c.toNat : Int)).wf = true := by
  have h3 : IntKind.min .u8 = 0 := by decide
  have h4 : IntKind.max .u8 = 255 := by decide
  have := c.toNat_lt
  simp [Lit.wf, h3, h4]
  omega
theorem cfg_shut_cells (n : Nat) (c : Pl.Cfg) (hc : CfgIn c) : DataW.trod enc Tryd.prog w base spare held (n + 2) 23 (cfgL c) = some (cfgD c, []) := by
  obtain ⟨f0, f1, f2, f3, f4, f5, f6, f7, f8, hs, hone, hC, t0, t1, t2, t3, t4, t5, t6, t7, t8⟩ := cfg_struct
  refine shut_cells (n := n + 1) (ys := [(.lit (.int .u8 (c.fmt.toNat : Int)), []), (.lit (.bool c.num), []), (.lit (.bool c.skip), []), (.lit (.bool c.both), []), (.lit (.bool c.loops), []), (.lit (.bool c.back), []), (.lit (.int .i64 c.bud), []), (.lit (.int .i64 c.fan), []), (.lit (.int .i64 c.sha), [])]) hs hone hC rfl rfl ?_
  have hi : ∀ (k : IntKind) (t : TypeId) (z : Int), Tryd.prog.underlying t = some (.int k) → (Lit.int k z).wf = true → DataW.trod enc Tryd.prog w base spare held (n + 1) t [.int k z] = some (.lit (.int k z), []) := fun k t z h1 h2 => Go.ChangeShapes.trod_int_mk n h1 h2
  have hb : ∀ (z : Bool), DataW.trod enc Tryd.prog w base spare held (n + 1) 4 [.bool z] = some (.lit (.bool z), []) := fun z => by
    unfold DataW.trod
    rw [Tryd.underlying4]
  intro i f v y h1 h2 h3
  match i with
  | 0 => simp [cfgL] at h1 h2 h3; subst h1 h2 h3; rw [t0]; exact hi _ _ _ Tryd.underlying5 (u8_wf _)
  | 1 => simp [cfgL] at h1 h2 h3; subst h1 h2 h3; rw [t1]; exact hb _
  | 2 => simp [cfgL] at h1 h2 h3; subst h1 h2 h3; rw [t2]; exact hb _
  | 3 => simp [cfgL] at h1 h2 h3; subst h1 h2 h3; rw [t3]; exact hb _
  | 4 => simp [cfgL] at h1 h2 h3; subst h1 h2 h3; rw [t4]; exact hb _
  | 5 => simp [cfgL] at h1 h2 h3; subst h1 h2 h3; rw [t5]; exact hb _
  | 6 => simp [cfgL] at h1 h2 h3; subst h1 h2 h3; rw [t6]; exact hi _ _ _ Tryd.underlying3 (i64_wf hc.b0 hc.b1)
  | 7 => simp [cfgL] at h1 h2 h3; subst h1 h2 h3; rw [t7]; exact hi _ _ _ Tryd.underlying3 (i64_wf hc.f0 hc.f1)
  | 8 => simp [cfgL] at h1 h2 h3; subst h1 h2 h3; rw [t8]; exact hi _ _ _ Tryd.underlying3 (i64_wf hc.s0 hc.s1)
  | k + 9 => simp at h1
theorem open_cfg {r : Reach} {b0 : Nat} {v : Value} {d : DataW H} {p : List MemPlace} (hv : Value.okWide Tryd.prog w r b0 23 v) (h : DataW.Trod enc Tryd.prog w base spare held 23 v d p) : ∃ c : Pl.Cfg, v = cfgV c ∧ d = cfgD c ∧ p = [] ∧ CfgIn c := by
  obtain ⟨f0, f1, f2, f3, f4, f5, f6, f7, f8, hs, _⟩ := cfg_struct
  obtain ⟨cs, rfl, _⟩ := okWide_struct hs hv
  obtain ⟨fuel, hf⟩ := h
  obtain ⟨c, h1, h2, h3⟩ := cfg_open_cells hf
  injection h2 with h4 h5
  obtain ⟨l⟩ := cs
  have h6 : l = cfgL c := h1
  subst h6
  exact ⟨c, rfl, h4, h5, h3⟩
theorem shut_cfg (c : Pl.Cfg) (hc : CfgIn c) : DataW.Trod enc Tryd.prog w base spare held 23 (cfgV c) (cfgD c) [] := ⟨_, cfg_shut_cells 0 c hc⟩
end
end Go.Proofs.YtfppbkpdpapemaaDoor
