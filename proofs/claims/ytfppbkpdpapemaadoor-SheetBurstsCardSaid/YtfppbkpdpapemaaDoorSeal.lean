import Derived.Test.YtfppbkpdpapemaaDoorBase
import Derived.Laws.BitsLemmas
import Derived.Below
import Derived.Laws.Rows
import Derived.Laws.CopyOwn
import Derived.Deep.WholeRow
/-! The sum of layer 2, and a sealed text (layer 3). No program in sight. -/
set_option linter.unusedSimpArgs false
set_option linter.unusedVariables false
namespace Go.Proofs.YtfppbkpdpapemaaDoor
namespace Pl
/-- one bit of the table's making -/
def crcStep (c : Nat) : Nat := if c % 2 = 1 then c / 2 ^^^ 2197175160 else c / 2
def crcIter : Nat → Nat → Nat
  | 0, c => c
  | k + 1, c => crcStep (crcIter k c)
/-- the table's entry -/
def crcEntry (i : Nat) : Nat := crcIter 8 i
/-- one byte more -/
def crcByte (c b : Nat) : Nat := crcEntry ((c ^^^ b) % 256) ^^^ c / 256
def crcGo (c : Nat) (l : List UInt8) : Nat := l.foldl (fun c b => crcByte c b.toNat) c
def crcSum (l : List UInt8) : Nat := 4294967295 - crcGo 4294967295 l
theorem crcStep_lt {c : Nat} (h : c < 4294967296) : crcStep c < 4294967296 := by
  unfold crcStep
  split
  · exact Nat.xor_lt_two_pow (n := 32) (by omega) (by omega)
  · omega
theorem crcIter_lt {c : Nat} (h : c < 4294967296) : ∀ k, crcIter k c < 4294967296
  | 0 => h
  | k + 1 => crcStep_lt (crcIter_lt h k)
theorem crcEntry_lt {c : Nat} (h : c < 4294967296) : crcEntry c < 4294967296 := crcIter_lt h 8
theorem crcByte_lt {c : Nat} (b : Nat) (h : c < 4294967296) : crcByte c b < 4294967296 := Nat.xor_lt_two_pow (n := 32) (crcEntry_lt (by omega)) (by omega)
theorem crcGo_lt (l : List UInt8) : ∀ {c : Nat}, c < 4294967296 → crcGo c l < 4294967296 := by
  induction l with
  | nil => intro c h; exact h
  | cons b l ih => intro c h; exact ih (crcByte_lt _ h)
theorem crcGo_snoc (c : Nat) (l : List UInt8) (b : UInt8) : crcGo c (l ++ [b]) = crcByte (crcGo c l) b.toNat := by simp [crcGo]
theorem crcSum_lt (l : List UInt8) : crcSum l < 4294967296 := by unfold crcSum; omega
/-- a sum's four bytes, the lowest first -/
def sumB (n : Nat) : List UInt8 := [UInt8.ofNat n, UInt8.ofNat (n / 256), UInt8.ofNat (n / 65536), UInt8.ofNat (n / 16777216)]
def sealB (l : List UInt8) : List UInt8 := l ++ sumB (crcSum l)
theorem sealB_len (l : List UInt8) : (sealB l).length = l.length + 4 := by simp [sealB, sumB]
end Pl

theorem bits32 (a b : Nat) (ha : a < 4294967296) (hb : b < 4294967296) : bits .and .u32 (a : Int) (b : Int) = ((a &&& b : Nat) : Int) ∧ bits .or .u32 (a : Int) (b : Int) = ((a ||| b : Nat) : Int) :=
  bits_nat .u32 32 (by decide) (fun n h0 h1 => by rw [IntKind.wrap_u32]; omega) a b (by omega) (by omega)
theorem xor_nat (k : IntKind) (a b : Nat) (ha : a < 2 ^ k.bits) (hb : b < 2 ^ k.bits) (hk : ∀ n : Int, 0 ≤ n → n < 2 ^ k.bits → k.wrap n = n) : bits .xor k (a : Int) (b : Int) = ((a ^^^ b : Nat) : Int) := by
  have ha' : a % 2 ^ k.bits = a := Nat.mod_eq_of_lt ha
  have hb' : b % 2 ^ k.bits = b := Nat.mod_eq_of_lt hb
  simp only [bits, BitVec.ofInt_natCast, BitVec.toNat_xor, BitVec.toNat_ofNat, ha', hb']
  exact hk _ (Int.natCast_nonneg _) (by exact_mod_cast Nat.xor_lt_two_pow ha hb)
theorem xor32 (a b : Nat) (ha : a < 4294967296) (hb : b < 4294967296) : bits .xor .u32 (a : Int) (b : Int) = ((a ^^^ b : Nat) : Int) :=
  xor_nat .u32 a b ha hb fun n h0 h1 => by rw [IntKind.wrap_u32]; have : n < 4294967296 := h1; omega
theorem xor8 (x y : Nat) (hy : y < 256) : bits .xor .u8 ((x : Int) % 256) (y : Int) = (((x ^^^ y) % 256 : Nat) : Int) := by
  rw [show (x : Int) % 256 = ((x % 256 : Nat) : Int) by omega, xor_nat .u8 (x % 256) y (show x % 256 < 2 ^ 8 by omega) (show y < 2 ^ 8 by omega) (fun n h0 h1 => by rw [IntKind.wrap_u8]; have : n < 256 := h1; omega)]
  rw [show (256 : Nat) = 2 ^ 8 from rfl, Nat.xor_mod_two_pow, Nat.mod_eq_of_lt (show y < 2 ^ 8 by omega)]
theorem not32 (x : Nat) (h : x < 4294967296) : bits .xor .u32 4294967295 (x : Int) = ((4294967295 - x : Nat) : Int) := by
  rw [show (4294967295 : Int) = ((4294967295 : Nat) : Int) from rfl, xor32 _ _ (by omega) h]
  congr 1
  rw [Nat.xor_comm]
  have : ∀ (a : BitVec 32), a.toNat ^^^ 4294967295 = 4294967295 - a.toNat := by
    intro a
    have h2 : (~~~ a).toNat = 4294967295 - a.toNat := by rw [BitVec.toNat_not]
    rw [← h2, show (4294967295 : Nat) = (BitVec.allOnes 32).toNat from rfl, ← BitVec.toNat_xor, BitVec.xor_allOnes]
  have := this (BitVec.ofNat 32 x)
  rwa [BitVec.toNat_ofNat, Nat.mod_eq_of_lt h] at this
/-- the table's step, as the code has it -/
theorem tab_step (c : Nat) (hc : c < 4294967296) : bits .xor .u32 ((c : Int) / 2) (bits .and .u32 2197175160 ((-(bits .and .u32 (c : Int) 1)) % 4294967296)) = ((Pl.crcStep c : Nat) : Int) := by
  have h1 := (bits32 c 1 hc (by omega)).1
  rw [show ((1 : Nat) : Int) = 1 from rfl] at h1
  rw [h1, Nat.and_one_is_mod]
  unfold Pl.crcStep
  by_cases h : c % 2 = 1
  · rw [if_pos h, h]
    rw [show (-((1 : Nat) : Int)) % 4294967296 = ((4294967295 : Nat) : Int) by decide, show (2197175160 : Int) = ((2197175160 : Nat) : Int) from rfl, (bits32 2197175160 4294967295 (by omega) (by omega)).1, show (2197175160 &&& 4294967295 : Nat) = 2197175160 by decide, show (c : Int) / 2 = ((c / 2 : Nat) : Int) by omega, xor32 _ _ (by omega) (by omega)]
  · rw [if_neg h, show c % 2 = 0 by omega]
    rw [show (-((0 : Nat) : Int)) % 4294967296 = ((0 : Nat) : Int) by decide, show (2197175160 : Int) = ((2197175160 : Nat) : Int) from rfl, (bits32 2197175160 0 (by omega) (by omega)).1, show (c : Int) / 2 = ((c / 2 : Nat) : Int) by omega, xor32 _ _ (by omega) (by simp), Nat.and_zero, Nat.xor_zero]
/-- .. and as the reference has it -/
theorem ref_step (c : Nat) (hc : c < 4294967296) (h : c % 2 = 1) : bits .xor .u32 ((c : Int) / 2) 2197175160 = ((Pl.crcStep c : Nat) : Int) := by
  unfold Pl.crcStep
  rw [if_pos h, show (2197175160 : Int) = ((2197175160 : Nat) : Int) from rfl, show (c : Int) / 2 = ((c / 2 : Nat) : Int) by omega, xor32 _ _ (by omega) (by omega)]
end Go.Proofs.YtfppbkpdpapemaaDoor
/-! crc.Table, crc.Add, crc.Sum; creelref02's. -/
set_option linter.unusedSimpArgs false
set_option linter.unusedVariables false
namespace Go.Proofs.YtfppbkpdpapemaaDoor
open Go.RowKit Go.Proofs.YtfppbkpdpapemaaDoorW.PrintWords Go.Proofs.YtfppbkpdpapemaaDoorW.PrintLast Go.Proofs.YtfppbkpdpapemaaDoorW.PrintMore

/-- a table in the making: the first i entries stand -/
structure TabAt (W : World) (g i : Nat) : Prop where
  out : ∃ cs : Array Value, Blk W g cs 85 ∧ cs.size = 256 ∧ ∀ j, j < i → cs[j]? = some (.int .u32 ((Pl.crcEntry j : Nat) : Int))

theorem tab_put {cs : Array Value} {k x : Nat} (hs : cs.size = 256) (h : ∀ j, j < k → cs[j]? = some (.int .u32 ((Pl.crcEntry j : Nat) : Int))) (hk : k < 256) (hx : Pl.crcIter 8 k = x) (j : Nat) (hj : j < k + 1) : (cs.setIfInBounds k (.int .u32 ((x : Nat) : Int)))[j]? = some (.int .u32 ((Pl.crcEntry j : Nat) : Int)) := by
  by_cases e : k = j
  · subst e
    rw [Array.getElem?_setIfInBounds_self_of_lt (by omega), ← hx]
    rfl
  · rw [Array.getElem?_setIfInBounds_ne e]
    exact h j (by omega)
theorem tab_one {cs : Array Value} (hs : cs.size = 256) (h : ∀ j, j < 256 → cs[j]? = some (.int .u32 ((Pl.crcEntry j : Nat) : Int))) : cs.all (·.oneCell') = true := by
  refine Array.all_eq_true_iff_forall_mem.2 fun v hv => ?_
  obtain ⟨j, hj, rfl⟩ := Array.getElem_of_mem hv
  have := h j (by omega)
  rw [Array.getElem?_eq_getElem hj] at this
  injection this with this
  rw [this]
  rfl
set_option maxRecDepth 100000 in
set_option maxHeartbeats 1000000 in
theorem table_any (w : World) : Calls Tryd.prog 58 #[] w fun e w' => ∃ xs : Array Value, e = .returned (.agg xs) ∧ xs.size = 256 ∧ (∀ j, j < 256 → xs[j]? = some (.int .u32 ((Pl.crcEntry j : Nat) : Int))) ∧ Below w.heap.size w w' := by
  go_enter Tryd.func58, Tryd.ntmps58
  go_wp2_with fail
  refine wp_at fun W1 hW1 => ?_
  have hb1 : Below w.heap.size w W1 := by rw [← hW1]; exact below_alloc (below_alloc (Below.refl _ _) _) _
  have K1 : Blk W1 (w.heap.size + 1) Tryd.zeroCells85 85 := by
    rw [← hW1]
    have := Blk.new (w.alloc (.cells Tryd.zeroCells85 85)) Tryd.zeroCells85 85
    rw [World.size_alloc] at this
    exact this
  have K0 : Blk W1 w.heap.size Tryd.zeroCells85 85 := by
    rw [← hW1]
    exact (Blk.new w _ _).alloc _
  have hz : Tryd.zeroCells85.size = 256 := by kernel_rfl
  have HK0 := Lib.hid K0
  clear K0 hW1
  have T1 := Lib.hid (⟨⟨_, K1, hz, fun j hj => by omega⟩⟩ : TabAt W1 (w.heap.size + 1) 0)
  clear K1 hz
  go_loopw [2, 3, 4, 9] (fun a b i d wr => ∃ k : Nat, i = .int .i64 (k : Int) ∧ Aside0 (k ≤ 256) ∧ Aside0 (TabAt wr (w.heap.size + 1) k) ∧ Aside0 (Blk wr w.heap.size Tryd.zeroCells85 85) ∧ Aside0 (Below w.heap.size w wr)) (fun _ _ i _ _ => 256 - (intOf i).toNat)
  case atStart => exact ⟨0, rfl, ⟨by omega⟩, ⟨T1.out⟩, ⟨HK0.out⟩, ⟨hb1⟩⟩
  case round =>
    obtain ⟨k, rfl, hk, HT, HK, HB⟩ := hrel
    by_cases hlt : k < 256
    · have hk0 : (0 : Int) ≤ (k : Int) := by omega
      obtain ⟨cs, KT, hsz, hcs⟩ := HT.out.out
      have HCS := Lib.hid hcs
      have hcc : wr.cell? ⟨w.heap.size + 1, k, none⟩ = some (cs[k]'(by omega)) := by
        have := KT.cell.1 k
        rw [this]
        exact Array.getElem?_eq_getElem (by omega)
      have hfz : wr.frozen? ⟨w.heap.size + 1, k, none⟩ = false := KT.cell.2 k
      have HKT := Lib.hid KT
      have HSZ := Lib.hid hsz
      obtain ⟨c0, hc0⟩ : ∃ z, cs[k]'(by omega) = z := ⟨_, rfl⟩
      rw [hc0] at hcc
      clear hcs KT hsz hc0
      go_wp2_with fail
      go_loop [3, 9] (fun c d => ∃ m : Nat, d = .int .i64 (m : Int) ∧ c = .int .u32 ((Pl.crcIter m k : Nat) : Int) ∧ Aside0 (m ≤ 8)) (fun _ d => 8 - (intOf d).toNat)
      case atStart => exact ⟨0, rfl, rfl, ⟨by omega⟩⟩
      case round =>
        obtain ⟨m, rfl, rfl, hm⟩ := hrel
        obtain ⟨x, hx⟩ : ∃ x, Pl.crcIter m k = x := ⟨_, rfl⟩
        have hx32 : x < 4294967296 := by rw [← hx]; exact Pl.crcIter_lt (by omega) m
        have HX := Lib.hid hx
        rw [hx]
        clear hx
        by_cases hlt8 : m < 8
        · have HTS := Lib.hid (tab_step x hx32)
          go_wp2_with fail
          go_round
          case rel => exact ⟨m + 1, by go_num, by rw [HTS.out, Pl.crcIter, HX.out], ⟨by omega⟩⟩
          case measure => simp [intOf]; omega
        · obtain rfl : m = 8 := by have := hm.out; omega
          go_wp2_with fail
          go_roundw
          case rel => exact ⟨k + 1, by go_num, ⟨by omega⟩, ⟨⟨_, HKT.out.set k _ rfl, by simp; exact HSZ.out, fun j hj => tab_put HSZ.out HCS.out hlt HX.out j hj⟩⟩, ⟨HK.out.far (by simp) _⟩, ⟨bset HB.out (by simp) _⟩⟩
          case measure => simp [intOf]; omega
    · obtain rfl : k = 256 := by have := hk.out; omega
      obtain ⟨cs, KT, hsz, hcs⟩ := HT.out.out
      have HCS := Lib.hid hcs
      have HSZ := Lib.hid hsz
      clear hcs hsz
      have HI := Lib.hid (show (Tryd.prog.info? 85).map (·.size) = some cs.size by rw [HSZ.out]; kernel_rfl)
      have H1 := Lib.hid (tab_one HSZ.out HCS.out)
      have HKT := Lib.hid KT
      have hz : Tryd.zeroCells85.size = 256 := by kernel_rfl
      have HZ := Lib.hid (show Tryd.zeroCells85.size = cs.size by rw [hz, HSZ.out])
      clear KT hz
      go_wp2_with fail
      refine wp_load_row 85 (.tmp 1) rfl (w.heap.size + 1) rfl 85 cs (0, 0) _ HKT.out.out Tryd.underlying85 rfl HI.out ?_
      have hst : (storeCells ⟨w.heap.size, 0, none⟩ cs.toList).run Tryd.prog wr = .ok () (wr.setRow w.heap.size cs) := by
        have := run_storeCells_from (P := Tryd.prog) w.heap.size 85 cs.toList 0 Tryd.zeroCells85 wr HK.out.out (by simp; exact HZ.out.symm) (fun v hv => (Array.all_eq_true_iff_forall_mem.1 H1.out) v (by simpa using hv))
        simpa using this
      have hcl : ∀ j, (wr.setRow w.heap.size cs).cell? ⟨w.heap.size, j, none⟩ = cs[j]? := fun j => cell_setRow_same wr w.heap.size j _ cs _ _ HK.out.out
      have HSR := Lib.hid (setRow_heap wr w.heap.size _ cs _ _ HK.out.out)
      have HBR := Lib.hid (below_setRow HB.out (Nat.le_refl _) cs)
      clear hcl
      go_wp2_with fail
      (try simp only [Exit.inBlock, Exit.then])
      refine bodyPost_ret (results_cell_row rfl _ _ w.heap.size 85 cs (0, 0) _ rfl HSR.out Tryd.underlying85 rfl HI.out) rfl ?_
      exact ⟨cs, rfl, HSZ.out, HCS.out, HBR.out⟩

set_option maxRecDepth 100000 in
set_option maxHeartbeats 1000000 in
theorem rentry_any (i : Nat) (hi : i < 4294967296) (w : World) : Calls Tryd.prog 59 #[.int .u32 (i : Int)] w fun e w' => e = .returned (.int .u32 ((Pl.crcEntry i : Nat) : Int)) ∧ w = w' := by
  go_enter Tryd.func59, Tryd.ntmps59
  go_wp2_with fail
  go_loop [0, 3] (fun c d => ∃ m : Nat, d = .int .i64 (m : Int) ∧ c = .int .u32 ((Pl.crcIter m i : Nat) : Int) ∧ Aside0 (m ≤ 8)) (fun _ d => 8 - (intOf d).toNat)
  case atStart => exact ⟨0, rfl, rfl, ⟨by omega⟩⟩
  case round =>
    obtain ⟨m, rfl, rfl, hm⟩ := hrel
    obtain ⟨x, hx⟩ : ∃ x, Pl.crcIter m i = x := ⟨_, rfl⟩
    have hx32 : x < 4294967296 := by rw [← hx]; exact Pl.crcIter_lt (by omega) m
    have HX := Lib.hid hx
    rw [hx]
    clear hx
    by_cases hlt8 : m < 8
    · by_cases ho : x % 2 = 1
      · have HTS := Lib.hid (ref_step x hx32 ho)
        have hb : ((x : Int) % 2 == 1) = true := by rw [beq_iff_eq]; omega
        clear ho
        go_wp2_with fail
        go_round
        case rel => exact ⟨m + 1, by go_num, by rw [HTS.out, Pl.crcIter, HX.out], ⟨by omega⟩⟩
        case measure => simp [intOf]; omega
      · have HTS := Lib.hid (show Pl.crcStep x = x / 2 by unfold Pl.crcStep; rw [if_neg ho])
        have hb : ((x : Int) % 2 == 1) = false := by rw [beq_eq_false_iff_ne]; omega
        clear ho
        go_wp2_with fail
        go_round
        case rel => exact ⟨m + 1, by go_num, by rw [Pl.crcIter, HX.out, HTS.out]; simp, ⟨by omega⟩⟩
        case measure => simp [intOf]; omega
    · obtain rfl : m = 8 := by have := hm.out; omega
      go_wp2_with fail
      go_ret
      exact ⟨by rw [← HX.out]; rfl, rfl⟩

set_option maxRecDepth 100000 in
set_option maxHeartbeats 1000000 in
theorem radd_any (v : Value) (l : List UInt8) (w : World) (hv : Rd kb w v l) (hl : l.length ≤ 1099511627776) : Calls Tryd.prog 52 #[.int .u32 0, v] w fun e w' => e = .returned (.int .u32 ((Pl.crcSum l : Nat) : Int)) ∧ w = w' := by
  obtain ⟨A, c0, rfl, hc0, hF⟩ := hv
  have HF := Lib.hid hF
  clear hF
  go_enter Tryd.func52, Tryd.ntmps52
  have hx0 : bits .xor .u32 4294967295 0 = 4294967295 := by decide
  go_wp2_with fail
  clear hx0
  go_loop [5, 6] (fun c d => ∃ m : Nat, d = .int .i64 (m : Int) ∧ c = .int .u32 ((Pl.crcGo 4294967295 (l.take m) : Nat) : Int) ∧ Aside0 (m ≤ l.length)) (fun _ d => l.length - (intOf d).toNat)
  case atStart => exact ⟨0, rfl, rfl, ⟨by omega⟩⟩
  case round =>
    obtain ⟨m, rfl, rfl, hm⟩ := hrel
    obtain ⟨x, hx⟩ : ∃ x, Pl.crcGo 4294967295 (l.take m) = x := ⟨_, rfl⟩
    have hx32 : x < 4294967296 := by rw [← hx]; exact Pl.crcGo_lt _ (by omega)
    have HX := Lib.hid hx
    rw [hx]
    clear hx
    by_cases hlt : m < l.length
    · obtain ⟨ad, rfl, hcell⟩ := kb_cell HF.out m hlt
      obtain ⟨b, hb⟩ : ∃ b, l.getD m 0 = b := ⟨_, rfl⟩
      rw [hb] at hcell
      have hb8 := UInt8.toNat_lt b
      have HS := Lib.hid (show Pl.crcGo 4294967295 (l.take (m + 1)) = Pl.crcByte x b.toNat by
        have e : l.take (m + 1) = l.take m ++ [b] := by
          rw [List.take_add_one, ← hb]
          simp [List.getD, hlt]
        rw [e, Pl.crcGo_snoc, HX.out])
      obtain ⟨y, hy⟩ : ∃ y, b.toNat = y := ⟨_, rfl⟩
      rw [hy] at hcell hb8 HS
      have h1 : bits .xor .u32 (x : Int) (y : Int) = ((x ^^^ y : Nat) : Int) := xor32 x y hx32 (by omega)
      have hxy : x ^^^ y < 4294967296 := Nat.xor_lt_two_pow (n := 32) hx32 (by omega)
      obtain ⟨z, hz⟩ : ∃ z, x ^^^ y = z := ⟨_, rfl⟩
      rw [hz] at h1 hxy
      have HZ := Lib.hid hz
      have q1 : (0 : Int) ≤ (m : Int) := by omega
      have q2 : (m : Int) < (l.length : Int) := by omega
      clear hb hy hz
      go_wp2_with (go_at_call 59; rw [show ((z : Int) % 256) = ((z % 256 : Nat) : Int) by omega]; refine (rentry_any (z % 256) (by omega) _).mono ?_; rintro e w1 ⟨rfl, rfl⟩)
      go_round
      case rel => exact ⟨m + 1, by go_num, by rw [HS.out, Pl.crcByte, HZ.out, ← xor32 _ _ (Pl.crcEntry_lt (by omega)) (by omega)]; simp, ⟨by omega⟩⟩
      case measure => simp [intOf]; omega
    · obtain rfl : m = l.length := by have := hm.out; omega
      have h1 : bits .xor .u32 4294967295 (x : Int) = ((4294967295 - x : Nat) : Int) := not32 x hx32
      go_wp2_with fail
      go_ret
      refine ⟨?_, rfl⟩
      rw [Pl.crcSum, ← HX.out, List.take_of_length_le (Nat.le_refl _)]
      simp
theorem tab_store {cs : Array Value} (hs : cs.size = 256) (h : ∀ j, j < 256 → cs[j]? = some (.int .u32 ((Pl.crcEntry j : Nat) : Int))) (W : World) : (storeCells ⟨W.heap.size, 0, none⟩ cs.toList).run Tryd.prog (W.alloc (.cells Tryd.zeroCells85 85)) = .ok () (W.alloc (.cells cs 85)) := by
  have hz : Tryd.zeroCells85.size = 256 := by kernel_rfl
  have := run_storeCells_from (P := Tryd.prog) W.heap.size 85 cs.toList 0 Tryd.zeroCells85 (W.alloc (.cells Tryd.zeroCells85 85)) (heap_alloc_new W _) (by simp; omega) (fun v hv => (Array.all_eq_true_iff_forall_mem.1 (tab_one hs h)) v (by simpa using hv))
  rw [show (List.take 0 Tryd.zeroCells85.toList ++ cs.toList).toArray = cs by simp, World.setRow_alloc_new] at this
  exact this
set_option maxRecDepth 100000 in
set_option maxHeartbeats 1000000 in
theorem cadd_any (v : Value) (l : List UInt8) (w : World) (hv : Rd kb w v l) (hl : l.length ≤ 1099511627776) : Calls Tryd.prog 51 #[.int .u32 0, v] w fun e w' => e = .returned (.int .u32 ((Pl.crcSum l : Nat) : Int)) ∧ Below w.heap.size w w' := by
  have HV := Lib.hid hv
  obtain ⟨A, c0, rfl, hc0, _⟩ := hv
  go_enter Tryd.func51, Tryd.ntmps51
  go_wp2_with (go_at_call 58; refine (table_any _).mono ?_; rintro e w1 ⟨cs, rfl, hsz, hcs, hb1⟩; have hst := tab_store hsz hcs w1; have HB1 := Lib.hid hb1; have HCS := Lib.hid hcs; have HSZ := Lib.hid hsz; clear hsz hcs hb1)
  refine wp_at fun W2 hW2 => ?_
  have hb2 : Below w.heap.size w W2 := by rw [← hW2]; exact below_alloc HB1.out _
  have K2 : Blk W2 w1.heap.size cs 85 := by rw [← hW2]; exact Blk.new _ _ _
  have HF := Lib.hid (Kd.V_at (Rd.below HV.out hb2)).2.2
  have hT : ∀ j, j < 256 → W2.cell? ⟨w1.heap.size, j, none⟩ = some (.int .u32 ((Pl.crcEntry j : Nat) : Int)) := fun j hj => (K2.cell.1 j).trans (HCS.out j hj)
  have HT := Lib.hid hT
  have HB2 := Lib.hid hb2
  clear hT hst hW2 HB1 hb2 K2
  go_loop [6, 14] (fun c d => ∃ m : Nat, d = .int .i64 (m : Int) ∧ c = .int .u32 ((Pl.crcGo 4294967295 (l.take m) : Nat) : Int) ∧ Aside0 (m ≤ l.length)) (fun _ d => l.length - (intOf d).toNat)
  case atStart => exact ⟨0, rfl, by rw [show bits .xor .u32 IntKind.u32.max 0 = 4294967295 by decide]; rfl, ⟨by omega⟩⟩
  case round =>
    obtain ⟨m, rfl, rfl, hm⟩ := hrel
    obtain ⟨x, hx⟩ : ∃ x, Pl.crcGo 4294967295 (l.take m) = x := ⟨_, rfl⟩
    have hx32 : x < 4294967296 := by rw [← hx]; exact Pl.crcGo_lt _ (by omega)
    have HX := Lib.hid hx
    rw [hx]
    clear hx
    by_cases hlt : m < l.length
    · obtain ⟨ad, rfl, hcell⟩ := kb_cell HF.out m hlt
      obtain ⟨b, hb⟩ : ∃ b, l.getD m 0 = b := ⟨_, rfl⟩
      rw [hb] at hcell
      have hb8 := UInt8.toNat_lt b
      have HS := Lib.hid (show Pl.crcGo 4294967295 (l.take (m + 1)) = Pl.crcByte x b.toNat by
        have e : l.take (m + 1) = l.take m ++ [b] := by
          rw [List.take_add_one, ← hb]
          simp [List.getD, hlt]
        rw [e, Pl.crcGo_snoc, HX.out])
      obtain ⟨y, hy⟩ : ∃ y, b.toNat = y := ⟨_, rfl⟩
      rw [hy] at hcell hb8 HS
      have h1 : bits .xor .u8 ((x : Int) % 256) (y : Int) = (((x ^^^ y) % 256 : Nat) : Int) := xor8 x y (by omega)
      have hz8 : (x ^^^ y) % 256 < 256 := by omega
      have hct := HT.out _ hz8
      obtain ⟨z, hz⟩ : ∃ z, (x ^^^ y) % 256 = z := ⟨_, rfl⟩
      rw [hz] at h1 hct hz8
      have HZ := Lib.hid hz
      have q1 : (0 : Int) ≤ (m : Int) := by omega
      have q2 : (m : Int) < (l.length : Int) := by omega
      have q3 : (0 : Int) ≤ (z : Int) := by omega
      have q4 : (z : Int) < 256 := by omega
      clear hb hy hz hz8
      go_wp2_with fail
      go_round
      case rel => exact ⟨m + 1, by go_num, by rw [HS.out, Pl.crcByte, HZ.out, ← xor32 _ _ (Pl.crcEntry_lt (by omega)) (by omega)]; simp, ⟨by omega⟩⟩
      case measure => simp [intOf]; omega
    · obtain rfl : m = l.length := by have := hm.out; omega
      have h1 : bits .xor .u32 4294967295 (x : Int) = ((4294967295 - x : Nat) : Int) := not32 x hx32
      go_wp2_with fail
      go_ret
      refine ⟨?_, HB2.out⟩
      show Ending.returned (.int .u32 (bits .xor .u32 IntKind.u32.max (x : Int))) = _
      rw [show IntKind.u32.max = 4294967295 from rfl, h1, Pl.crcSum, ← HX.out, List.take_of_length_le (Nat.le_refl _)]
theorem csum_any (v : Value) (l : List UInt8) (w : World) (hv : Rd kb w v l) (hl : l.length ≤ 1099511627776) : Calls Tryd.prog 44 #[v] w fun e w' => e = .returned (.int .u32 ((Pl.crcSum l : Nat) : Int)) ∧ Below w.heap.size w w' := by
  go_enter Tryd.func44, Tryd.ntmps44
  go_wp2_with (go_at_call 51; refine (cadd_any _ l _ hv hl).mono ?_; rintro e w1 ⟨rfl, hb1⟩)
  go_ret
  exact ⟨rfl, hb1⟩
theorem rsum_any (v : Value) (l : List UInt8) (w : World) (hv : Rd kb w v l) (hl : l.length ≤ 1099511627776) : Calls Tryd.prog 45 #[v] w fun e w' => e = .returned (.int .u32 ((Pl.crcSum l : Nat) : Int)) ∧ w = w' := by
  go_enter Tryd.func45, Tryd.ntmps45
  go_wp2_with (go_at_call 52; refine (radd_any _ l _ hv hl).mono ?_; rintro e w1 ⟨rfl, rfl⟩)
  go_ret
  exact ⟨rfl, rfl⟩
end Go.Proofs.YtfppbkpdpapemaaDoor
/-! frame.Seal; creelref03.Seal. -/
set_option linter.unusedSimpArgs false
set_option linter.unusedVariables false
namespace Go.Proofs.YtfppbkpdpapemaaDoor
open Go.RowKit Go.Proofs.YtfppbkpdpapemaaDoorW.PrintWords Go.Proofs.YtfppbkpdpapemaaDoorW.PrintLast Go.Proofs.YtfppbkpdpapemaaDoorW.PrintMore

namespace Pl
theorem set_after (l r : List UInt8) (i : Nat) (c : UInt8) : (l ++ r).set (l.length + i) c = l ++ r.set i c := by
  rw [List.set_append_right _ _ (by omega)]
  congr 2
  omega
/-- a sum's bytes in the making -/
def sealAt (n k : Nat) : List UInt8 := (sumB n).take k ++ List.replicate (4 - k) 0
theorem sealAt_len (n k : Nat) : (sealAt n k).length = min k 4 + (4 - k) := by simp [sealAt, sumB]
theorem sealAt_set (n k : Nat) (h : k < 4) : (sealAt n k).set k (UInt8.ofNat (n / 256 ^ k)) = sealAt n (k + 1) := by
  rcases k with _ | _ | _ | _ | k
  · simp [sealAt, sumB, List.replicate]
  · simp [sealAt, sumB, List.replicate]
  · simp [sealAt, sumB, List.replicate]
  · simp [sealAt, sumB, List.replicate]
  · omega
theorem byte_of (n : Nat) : ((UInt8.ofNat n).toNat : Int) = (n : Int) % 256 := by simp
end Pl
section
variable {ops : Array Oper} {rest : List Oper} {o : Oper} {a : Act} {Q : Exit → Act → World → Prop} {w0 W : World}
/-- copy(v, ys) of bytes. -/
theorem copyB (base : Nat) (hgd : o.guard = none) (s x : Operand) (ho : o.op = .call { callee := .builtin .copy, args := #[s, x], argTypes := #[27, 27] })
    (v u : Value) (xs ys : List UInt8) (hs : a.eval s = v) (hx : a.eval x = u)
    (HO : Own kb 5 W base v xs) (HR : Rd kb W u ys) (HB : Below base w0 W) (hbase : base ≤ W.heap.size)
    (h : ∀ w1, Own kb 5 w1 base v (ys.take (min ys.length xs.length) ++ xs.drop (min ys.length xs.length)) → Below base w0 w1 → W.grownBy w1 v.ownBlock → wpList Tryd.prog ops Q rest (a.put o.dst (.int .i64 ((min ys.length xs.length : Nat) : Int))) w1) :
    wpList Tryd.prog ops Q (o :: rest) a W := by
  obtain ⟨A, c, rfl, hc, hF⟩ := HR
  exact Kd.R_copy (0 : UInt8) base hgd s x 27 27 5 ho Tryd.underlying27 (by kernel_rfl) v xs ys A ys.length c _ hs hx (own_R HO) (Kd.F_now hF) HB hbase (fun w1 h1 => h w1 (Kd.R_N h1))
end

set_option maxRecDepth 100000 in
set_option maxHeartbeats 1000000 in
theorem seal_any (v : Value) (l : List UInt8) (w : World) (hv : Rd kb w v l) (hl : l.length ≤ 1099511627776) : Calls Tryd.prog 26 #[v] w fun e w' => ∃ v', e = .returned v' ∧ Own kb 5 w' w.heap.size v' (Pl.sealB l) ∧ Below w.heap.size w w' := by
  have HV := Lib.hid hv
  obtain ⟨A, c0, rfl, hc0, _⟩ := hv
  go_enter Tryd.func26, Tryd.ntmps26
  go_wp2_with (first | ((with_reducible refine gate_dst (N := 9) rfl ?_); refine mkB (w0 := w) w.heap.size rfl rfl (.tmp 8) (.tmp 8) rfl (l.length + 4) (by simp [Act.eval]) (by simp [Act.eval]) (by omega) (Below.refl _ _) (Nat.le_refl _) ?_; intro v4 w4 ho4 hb4 hg4; obtain ⟨g, cap, hv4, hg1, hg2⟩ := own_form ho4 (by simp); rw [List.length_replicate] at hv4; subst hv4; obtain ⟨he4, hc4, _⟩ := Kd.V_at ho4.v; clear he4; have hcap : ¬ cap = l.length := fun he => absurd hc4 (by omega); clear hc4; have HO4 := Lib.hid ho4; have HB4 := Lib.hid hb4; clear ho4 hb4 hg4) | ((with_reducible refine gate_builtin (b := .copy) (xs := #[.tmp 10, .tmp 11]) rfl ?_); refine copyB (w0 := w) w.heap.size rfl (.tmp 10) (.tmp 11) rfl _ _ (List.replicate (l.length + 4) 0) l rfl rfl HO4.out (Rd.below HV.out HB4.out) HB4.out HB4.out.size ?_; intro w5 ho5 hb5 hg5; have HO5 := Lib.hid (show Own kb 5 w5 w.heap.size (.slice (some ⟨g, 0, none⟩) (l.length + 4) cap) _ from ho5); have HB5 := Lib.hid hb5; clear ho5 hb5 hg5) | (go_at_call 44; refine (csum_any _ l _ (Rd.below HV.out HB5.out) hl).mono ?_; rintro e w6 ⟨rfl, hb6⟩))
  have hb60 := bthen HB5.out hb6
  have ho6 := HO5.out.below hb6
  have e0 : l.take (min l.length (List.replicate (l.length + 4) (0 : UInt8)).length) ++ (List.replicate (l.length + 4) (0 : UInt8)).drop (min l.length (List.replicate (l.length + 4) (0 : UInt8)).length) = l ++ Pl.sealAt (Pl.crcSum l) 0 := by
    rw [List.length_replicate, Nat.min_eq_left (by omega), List.take_of_length_le (Nat.le_refl _), List.drop_replicate, Nat.add_sub_cancel_left]
    rfl
  rw [e0] at ho6
  have HO6 := Lib.hid ho6
  have HB6 := Lib.hid hb60
  have hn32 := Pl.crcSum_lt l
  obtain ⟨n, hn⟩ : ∃ n, Pl.crcSum l = n := ⟨_, rfl⟩
  rw [hn] at HO6 hn32 ⊢
  have HN := Lib.hid hn
  clear hn e0 ho6 hb6 hb60 HO4 HB4 HO5 HB5
  go_loopw [5, 20] (fun x i wr => ∃ k : Nat, i = .int .i64 (k : Int) ∧ Aside0 (k ≤ 4) ∧ Aside0 (Own kb 5 wr w.heap.size (.slice (some ⟨g, 0, none⟩) (l.length + 4) cap) (l ++ Pl.sealAt n k)) ∧ Aside0 (Below w.heap.size w wr)) (fun _ i _ => 4 - (intOf i).toNat)
  case atStart => exact ⟨0, rfl, ⟨by omega⟩, ⟨HO6.out⟩, ⟨HB6.out⟩⟩
  case round =>
    obtain ⟨k, rfl, hk, HO, HB⟩ := hrel
    by_cases hlt : k < 4
    · obtain ⟨y1, y2⟩ := own_cell HO.out (l.length + k) (by simp [Pl.sealAt_len]; omega)
      obtain ⟨y0, hy0⟩ : ∃ z, ((l ++ Pl.sealAt n k).getD (l.length + k) 0).toNat = z := ⟨_, rfl⟩
      rw [hy0] at y1
      have q1 : (0 : Int) ≤ (l.length : Int) := by omega
      have hS := Pl.sealAt_set n k hlt
      have HS := Lib.hid (show (l ++ Pl.sealAt n k).set (l.length + k) (UInt8.ofNat (n / 256 ^ k)) = l ++ Pl.sealAt n (k + 1) by rw [Pl.set_after, hS])
      have HP := Lib.hid (own_put HO.out (l.length + k) (UInt8.ofNat (n / 256 ^ k)))
      rw [HS.out, Pl.byte_of] at HP
      clear hS hy0
      rcases (show k = 0 ∨ k = 1 ∨ k = 2 ∨ k = 3 by omega) with rfl | rfl | rfl | rfl
      · rw [Nat.add_zero] at y1 y2
        go_wp2_with fail
        go_roundw
        case rel => exact ⟨1, rfl, ⟨by omega⟩, ⟨by have hp := HP.out; rw [show (((n / 256 ^ 0 : Nat) : Int) % 256) = (n : Int) % 256 by rw [show (256 : Nat) ^ 0 = 1 from rfl]; omega] at hp; exact hp⟩, ⟨bset HB.out hg1 _⟩⟩
        case measure => decide
      · go_wp2_with fail
        go_roundw
        case rel => exact ⟨2, rfl, ⟨by omega⟩, ⟨by have hp := HP.out; rw [show (((n / 256 ^ 1 : Nat) : Int) % 256) = (n : Int) / 256 % 256 by rw [show (256 : Nat) ^ 1 = 256 from rfl]; omega] at hp; exact hp⟩, ⟨bset HB.out hg1 _⟩⟩
        case measure => decide
      · go_wp2_with fail
        go_roundw
        case rel => exact ⟨3, rfl, ⟨by omega⟩, ⟨by have hp := HP.out; rw [show (((n / 256 ^ 2 : Nat) : Int) % 256) = (n : Int) / 65536 % 256 by rw [show (256 : Nat) ^ 2 = 65536 from rfl]; omega] at hp; exact hp⟩, ⟨bset HB.out hg1 _⟩⟩
        case measure => decide
      · go_wp2_with fail
        go_roundw
        case rel => exact ⟨4, rfl, ⟨by omega⟩, ⟨by have hp := HP.out; rw [show (((n / 256 ^ 3 : Nat) : Int) % 256) = (n : Int) / 16777216 by rw [show (256 : Nat) ^ 3 = 16777216 from rfl]; omega] at hp; exact hp⟩, ⟨bset HB.out hg1 _⟩⟩
        case measure => decide
    · obtain rfl : k = 4 := by have := hk.out; omega
      go_wp2_with fail
      go_ret
      refine ⟨_, rfl, ?_, HB.out⟩
      rw [Pl.sealB, HN.out]
      exact HO.out

set_option maxRecDepth 100000 in
set_option maxHeartbeats 1000000 in
theorem rseal_any (v : Value) (l : List UInt8) (w : World) (hv : Rd kb w v l) (hl : l.length ≤ 1099511627776) : Calls Tryd.prog 31 #[v] w fun e w' => ∃ v', e = .returned v' ∧ Own kb 5 w' w.heap.size v' (Pl.sealB l) ∧ Below w.heap.size w w' := by
  have HV := Lib.hid hv
  obtain ⟨A, c0, rfl, hc0, _⟩ := hv
  have HL := lit_own w w.heap.size [] [] rfl (Nat.le_refl _) (by simp)
  have HB := below_alloc (Below.refl _ w) (.cells #[] 5)
  have HLH := Lib.hid HL
  have HBH := Lib.hid HB
  clear HL HB
  have hn32 := Pl.crcSum_lt l
  obtain ⟨n, hn⟩ : ∃ n, Pl.crcSum l = n := ⟨_, rfl⟩
  have HN := Lib.hid hn
  rw [hn] at hn32
  have HLIT := Lib.hid (show [Value.int .u8 ((n : Int) % 256), .int .u8 ((n : Int) / 256 % 256), .int .u8 ((n : Int) / 65536 % 256), .int .u8 ((n : Int) / 16777216)] = (Pl.sumB n).map fun c => Value.int .u8 (c.toNat : Int) by
    simp only [Pl.sumB, List.map_cons, List.map_nil, Pl.byte_of]
    congr 1
    congr 1
    congr 1
    congr 1
    congr 1
    omega)
  clear hn
  go_enter Tryd.func31, Tryd.ntmps31
  go_wp2_with (first | (go_at_call 45; refine (rsum_any _ l _ HV.out hl).mono ?_; rw [HN.out]; rintro e w6 ⟨rfl, rfl⟩) | ((with_reducible refine gate_builtin (b := .append) (xs := #[.tmp 6, .tmp 7]) rfl ?_); at_builtin; refine appN (w0 := w) w.heap.size rfl (.tmp 6) (.tmp 7) rfl _ _ [] l rfl rfl HLH.out (Rd.below HV.out HBH.out) HBH.out HBH.out.size (by simp; omega) ?_; intro v5 w5 ho5 hb5 hg5 hat5; have HO5 := Lib.hid ho5; have HB5 := Lib.hid hb5; clear ho5 hb5 hg5 hat5) | ((with_reducible refine gate_builtin (b := .append) (xs := #[.tmp 8, .tmp 23]) rfl ?_); at_builtin; refine appN (w0 := w) w.heap.size rfl (.tmp 8) (.tmp 23) rfl _ (.slice (some ⟨w5.heap.size, 0, none⟩) 4 4) l (Pl.sumB n) rfl rfl (HO5.out.alloc _) (Kd.V_mono (lit_rd w5 4 #[.int .u8 ((n : Int) % 256), .int .u8 ((n : Int) / 256 % 256), .int .u8 ((n : Int) / 65536 % 256), .int .u8 ((n : Int) / 16777216)] 5 (0, 0) (Pl.sumB n) HLIT.out (by simp [Pl.sumB]) (by simp [Pl.sumB])) fun _ _ => trivial) (HB5.out.alloc HB5.out.size _) (HB5.out.alloc HB5.out.size _).size (by simp [Pl.sumB]; omega) ?_; intro v7 w7 ho7 hb7 hg7 hat7))
  go_ret
  refine ⟨_, rfl, ?_, hb7⟩
  rw [Pl.sealB, HN.out]
  exact ho7
end Go.Proofs.YtfppbkpdpapemaaDoor
/-! slices.Equal of bytes; frame.sealed, frame.Unseal; creelref03.Unseal. -/
set_option linter.unusedSimpArgs false
set_option linter.unusedVariables false
namespace Go.Proofs.YtfppbkpdpapemaaDoor
open Go.RowKit Go.Proofs.YtfppbkpdpapemaaDoorW.PrintWords Go.Proofs.YtfppbkpdpapemaaDoorW.PrintLast Go.Proofs.YtfppbkpdpapemaaDoorW.PrintMore

namespace Pl
/-- what a sealed text holds -/
def unB (l : List UInt8) : Option (List UInt8) := if 4 ≤ l.length ∧ sealB (l.take (l.length - 4)) = l then some (l.take (l.length - 4)) else none
theorem unB_some {l x : List UInt8} (h : unB l = some x) : sealB x = l ∧ x.length + 4 = l.length := by
  unfold unB at h
  split at h
  · rename_i hh
    injection h with h
    subst h
    exact ⟨hh.2, by simp; omega⟩
  · cases h
theorem unB_seal (x : List UInt8) : unB (sealB x) = some x := by
  have h : (sealB x).take ((sealB x).length - 4) = x := by
    rw [sealB_len, Nat.add_sub_cancel]
    simp [sealB]
  unfold unB
  rw [h, if_pos ⟨by rw [sealB_len]; omega, rfl⟩]
theorem ne_at {l r : List UInt8} {k : Nat} (h : l.getD k 0 ≠ r.getD k 0) : ¬ l = r := fun e => h (by rw [e])
theorem eq_all {l r : List UInt8} (hl : l.length = r.length) (h : ∀ k, k < l.length → l.getD k 0 = r.getD k 0) : l = r := by
  refine List.ext_getElem hl fun i h1 h2 => ?_
  have := h i h1
  simpa [List.getD, h1, h2] using this
end Pl

set_option maxRecDepth 100000 in
set_option maxHeartbeats 2000000 in
theorem sequal_any (va vb : Value) (xs ys : List UInt8) (w : World) (ha : Rd kb w va xs) (hb : Rd kb w vb ys) : Calls Tryd.prog 53 #[va, vb] w fun e w' => e = .returned (.bool (decide (xs = ys))) ∧ Below w.heap.size w w' := by
  obtain ⟨Aa, ca, rfl, hca, hFa⟩ := ha
  obtain ⟨Ab, cb, rfl, hcb, hFb⟩ := hb
  have HFA := Lib.hid hFa
  have HFB := Lib.hid hFb
  have hmx := Kd.F_max hFa
  clear hFa hFb
  go_enter Tryd.func53, Tryd.ntmps53
  by_cases hlen : xs.length = ys.length
  · have d1 : ((xs.length : Int) != (ys.length : Int)) = false := by rw [hlen]; simp
    have HLEN := Lib.hid hlen
    clear hlen
    go_wp2_with fail
    go_loopw [5, 13] (fun x i wr => ∃ k : Nat, i = .int .i64 (k : Int) ∧ Aside0 (k ≤ xs.length) ∧ Aside0 (∀ j, j < k → xs.getD j 0 = ys.getD j 0) ∧ Aside0 (Below w.heap.size w wr)) (fun _ i _ => xs.length - (intOf i).toNat)
    case atStart => exact ⟨0, rfl, ⟨by omega⟩, ⟨fun j h => by omega⟩, ⟨Below.refl _ _⟩⟩
    case round =>
      obtain ⟨k, rfl, hk, HEQ, HBw⟩ := hrel
      by_cases hlt : k < xs.length
      · have hlt2 : k < ys.length := by have := HLEN.out; omega
        obtain ⟨ad, rfl, hc1⟩ := kb_cell HFA.out k hlt
        obtain ⟨bd, rfl, hc2⟩ := kb_cell HFB.out k hlt2
        have hlA := World.block_lt_of_cell? _ _ hc1
        have hlB := World.block_lt_of_cell? _ _ hc2
        have hb0 := HBw.out.drew
        obtain ⟨x, hx⟩ : ∃ x, xs.getD k 0 = x := ⟨_, rfl⟩
        obtain ⟨y, hy⟩ : ∃ y, ys.getD k 0 = y := ⟨_, rfl⟩
        rw [hx] at hc1
        rw [hy] at hc2
        have HX := Lib.hid (⟨(hb0.cell (p := ad.add k) hlA).trans hc1, (hb0.cell (p := bd.add k) hlB).trans hc2⟩ : wr.drew.cell? (ad.add k) = some (.int .u8 (x.toNat : Int)) ∧ wr.drew.cell? (bd.add k) = some (.int .u8 (y.toNat : Int)))
        have HXY := Lib.hid (⟨hx, hy⟩ : xs.getD k 0 = x ∧ ys.getD k 0 = y)
        have HB0 := Lib.hid hb0
        have q1 : (0 : Int) ≤ (k : Int) := by omega
        have q2 : (k : Int) < (xs.length : Int) := by omega
        have q3 : (k : Int) < (ys.length : Int) := by omega
        clear hx hy hc1 hc2 hb0
        go_upto_region 6 with fail
        by_cases hxy : x = y
        · have d2 : ((x.toNat : Int) != (y.toNat : Int)) = false := by rw [hxy]; simp
          have HE2 := Lib.hid (show ∀ j, j < k + 1 → xs.getD j 0 = ys.getD j 0 by
            intro j hj
            by_cases hjk : j = k
            · subst hjk; rw [HXY.out.1, HXY.out.2]; exact hxy
            · exact HEQ.out j (by omega))
          clear hxy
          go_region_held3 (fun W => W.cell? (ad.add k) = some (.int .u8 (x.toNat : Int)) ∧ W.cell? (bd.add k) = some (.int .u8 (y.toNat : Int))) (first | exact HX.out) (first | fail)
          go_wp2_with fail
          go_roundw
          case rel => exact ⟨k + 1, by go_num, ⟨by omega⟩, ⟨HE2.out⟩, ⟨HB0.out⟩⟩
          case measure => simp [intOf]; omega
        · have d2 : ((x.toNat : Int) != (y.toNat : Int)) = true := by
            simp only [bne_iff_ne, ne_eq]
            intro he
            exact hxy (UInt8.toNat_inj.1 (by omega))
          have HNE := Lib.hid (show ¬ xs = ys from Pl.ne_at (k := k) (by rw [HXY.out.1, HXY.out.2]; exact hxy))
          clear hxy
          go_region_held3 (fun W => W.cell? (ad.add k) = some (.int .u8 (x.toNat : Int)) ∧ W.cell? (bd.add k) = some (.int .u8 (y.toNat : Int))) (first | exact HX.out) (first | fail)
          go_wp2_with fail
          go_ret
          exact ⟨by rw [decide_eq_false HNE.out]; rfl, HB0.out⟩
      · obtain rfl : k = xs.length := by have := hk.out; omega
        have hd : decide ((xs.length : Int) < (xs.length : Int)) = false := by simp
        have HYES := Lib.hid (Pl.eq_all HLEN.out HEQ.out)
        go_wp2_with fail
        go_ret
        exact ⟨by rw [decide_eq_true HYES.out]; rfl, HBw.out⟩
  · have d1 : ((xs.length : Int) != (ys.length : Int)) = true := by simp only [bne_iff_ne, ne_eq]; omega
    have HNE := Lib.hid (show ¬ xs = ys from fun e => hlen (by rw [e]))
    clear hlen
    go_wp2_with fail
    go_ret
    exact ⟨by rw [decide_eq_false HNE.out]; rfl, Below.refl _ _⟩

set_option maxRecDepth 100000 in
set_option maxHeartbeats 2000000 in
theorem sealed_any (v : Value) (l : List UInt8) (w : World) (hv : Rd kb w v l) (h4 : 4 ≤ l.length) (hl : l.length ≤ 1048576) : Calls Tryd.prog 46 #[v] w fun e w' => e = .returned (.bool (decide (Pl.sealB (l.take (l.length - 4)) = l))) ∧ Below w.heap.size w w' := by
  have HV := Lib.hid hv
  obtain ⟨A, c0, rfl, hc0, hF⟩ := hv
  obtain ⟨hcut, hV2⟩ := byte_to hF hc0 (l.length - 4) (by omega)
  replace hcut := hcut .i64 ((l.length : Int) - 4) (by omega)
  have HV2 := Lib.hid (Kd.V_mono hV2 fun _ _ => trivial : Rd kb w _ (l.take (l.length - 4)))
  clear hV2 hF
  have hz : (4 : Int) ≤ (l.length : Int) := by omega
  go_enter Tryd.func46, Tryd.ntmps46
  go_wp2_with (first | (go_at_call 26; refine (seal_any _ (l.take (l.length - 4)) _ HV2.out (by rw [List.length_take]; omega)).mono ?_; rintro e w2 ⟨v2, rfl, ho2, hb2⟩) | (go_at_call 53; refine (sequal_any _ _ (Pl.sealB (l.take (l.length - 4))) l _ ho2.rd (Rd.below HV.out hb2)).mono ?_; rintro e w3 ⟨rfl, hb3⟩))
  go_ret
  exact ⟨rfl, bthen hb2 hb3⟩

/-- What takes a sealed text's inside answers. -/
def UnsealS (l : List UInt8) (w : World) (e : Ending) (w' : World) : Prop := ∃ (v' : Value) (code : Int), e = .returned (.tuple #[v', .int .i64 code]) ∧ (code = 0 ↔ (Pl.unB l).isSome = true) ∧ Own kb 5 w' w.heap.size v' ((Pl.unB l).getD []) ∧ Below w.heap.size w w'
theorem unseals_no {l : List UInt8} {w w' : World} {code : Int} (h : Pl.unB l = none) (hc : code ≠ 0) (hb : Below w.heap.size w w') : UnsealS l w (.returned (.tuple #[.slice none 0 0, .int .i64 code])) w' :=
  ⟨_, code, rfl, by rw [h]; simpa using hc, by rw [h]; exact Own.nil _ _ _ _, hb⟩

set_option maxRecDepth 100000 in
set_option maxHeartbeats 2000000 in
theorem unseal_any (v : Value) (l : List UInt8) (w : World) (hv : Rd kb w v l) (hl : l.length ≤ 1048576) : Calls Tryd.prog 34 #[v] w (UnsealS l w) := by
  have HV := Lib.hid hv
  obtain ⟨A, c0, rfl, hc0, hF⟩ := hv
  go_enter Tryd.func34, Tryd.ntmps34
  by_cases h4 : l.length < 4
  · have d4 : decide ((l.length : Int) < 4) = true := by simp; omega
    have HN := Lib.hid (show Pl.unB l = none by unfold Pl.unB; rw [if_neg]; rintro ⟨h, _⟩; omega)
    go_wp2_with fail
    go_ret2
    exact unseals_no HN.out (by decide) (Below.refl _ _)
  · have d4 : decide ((l.length : Int) < 4) = false := by simp; omega
    obtain ⟨hcut, hV2⟩ := byte_to hF hc0 (l.length - 4) (by omega)
    replace hcut := hcut .i64 ((l.length : Int) - 4) (by omega)
    have HV2 := Lib.hid (Kd.V_mono hV2 fun _ _ => trivial : Rd kb w _ (l.take (l.length - 4)))
    clear hV2 hF
    have hz : (4 : Int) ≤ (l.length : Int) := by omega
    have H4 := Lib.hid h4
    clear h4
    by_cases hs : Pl.sealB (l.take (l.length - 4)) = l
    · have HY := Lib.hid (show Pl.unB l = some (l.take (l.length - 4)) by unfold Pl.unB; rw [if_pos ⟨by have := H4.out; omega, hs⟩])
      have HD := Lib.hid (show decide (Pl.sealB (l.take (l.length - 4)) = l) = true from decide_eq_true hs)
      clear hs
      go_wp2_with (first | (go_at_call 46; refine (sealed_any _ l _ HV.out (by have := H4.out; omega) hl).mono ?_; rw [HD.out]; rintro e w2 ⟨rfl, hb2⟩) | (go_at_call 42; refine (clone_any _ (l.take (l.length - 4)) _ (Rd.below HV2.out hb2) (by rw [List.length_take]; omega)).mono ?_; rintro e w3 ⟨v3, rfl, ho3, hb3⟩))
      go_ret2
      exact ⟨v3, 0, rfl, by rw [HY.out]; simp, by rw [HY.out]; exact ho3.lower hb2.size, bthen hb2 hb3⟩
    · have HN := Lib.hid (show Pl.unB l = none by unfold Pl.unB; rw [if_neg]; rintro ⟨_, h⟩; exact hs h)
      have HD := Lib.hid (show decide (Pl.sealB (l.take (l.length - 4)) = l) = false from decide_eq_false hs)
      clear hs
      go_wp2_with (first | (go_at_call 46; refine (sealed_any _ l _ HV.out (by have := H4.out; omega) hl).mono ?_; rw [HD.out]; rintro e w2 ⟨rfl, hb2⟩))
      go_ret2
      exact unseals_no HN.out (by decide) hb2

set_option maxRecDepth 100000 in
set_option maxHeartbeats 2000000 in
theorem runseal_any (v : Value) (l : List UInt8) (w : World) (hv : Rd kb w v l) (hl : l.length ≤ 1048576) : Calls Tryd.prog 37 #[v] w (UnsealS l w) := by
  have HV := Lib.hid hv
  obtain ⟨A, c0, rfl, hc0, hF⟩ := hv
  have HL := lit_own w w.heap.size [] [] rfl (Nat.le_refl _) (by simp)
  have HB := below_alloc (Below.refl _ w) (.cells #[] 5)
  have HLH := Lib.hid HL
  have HBH := Lib.hid HB
  clear HL HB
  go_enter Tryd.func37, Tryd.ntmps37
  by_cases h4 : l.length < 4
  · have d4 : decide ((l.length : Int) < 4) = true := by simp; omega
    have HN := Lib.hid (show Pl.unB l = none by unfold Pl.unB; rw [if_neg]; rintro ⟨h, _⟩; omega)
    go_wp2_with fail
    go_ret2
    exact unseals_no HN.out (by decide) (Below.refl _ _)
  · have d4 : decide ((l.length : Int) < 4) = false := by simp; omega
    obtain ⟨hcut, hV2⟩ := byte_to hF hc0 (l.length - 4) (by omega)
    replace hcut := hcut .i64 ((l.length : Int) - 4) (by omega)
    have HV2 := Lib.hid (Kd.V_mono hV2 fun _ _ => trivial : Rd kb w _ (l.take (l.length - 4)))
    clear hV2 hF
    have hz : (4 : Int) ≤ (l.length : Int) := by omega
    have H4 := Lib.hid h4
    obtain ⟨x, hx⟩ : ∃ x, l.take (l.length - 4) = x := ⟨_, rfl⟩
    have hxl : x.length ≤ 1048576 := by rw [← hx, List.length_take]; omega
    have HX := Lib.hid hx
    rw [hx] at HV2
    clear h4 hx
    go_upto_region 4 with ((with_reducible refine gate_builtin (b := .append) (xs := #[.tmp 8, .tmp 13]) rfl ?_); at_builtin; refine appN (w0 := w) w.heap.size rfl (.tmp 8) (.tmp 13) rfl _ _ [] x rfl rfl HLH.out (Rd.below HV2.out HBH.out) HBH.out HBH.out.size (by simp only [List.length_nil]; omega) ?_; intro v5 w5 ho5 hb5 hg5 hat5; rw [List.nil_append] at ho5; obtain ⟨A5, c5, hv5⟩ := Kd.N_slice ho5; subst hv5; have HO5 := Lib.hid ho5; have HB5 := Lib.hid hb5; clear ho5 hb5 hg5 hat5)
    have e1 := byte_string (Rd.below HV.out HB5.out.drew)
    by_cases hs : Pl.sealB x = l
    · have HY := Lib.hid (show Pl.unB l = some x by unfold Pl.unB; rw [HX.out, if_pos ⟨by have := H4.out; omega, hs⟩])
      have d1 : (!(Pl.sealB x == l)) = false := by rw [hs]; simp
      clear hs
      refine wp_region_noPanic ?_
      refine wp_region_held_drew (S := (fun W => (convert 27 9 (.slice A l.length c0)).run Tryd.prog W = .ok (.string ⟨l.toArray⟩) W)) (by kernel_rfl) ?_ (fun hHeld => ?_)
      · first | exact trivial | ((try dsimp only); exact e1)
      refine wpAnyH_take (i := 0) (oi := ?oiy0) (v := ?vy0) ?hiy0 (by kernel_rfl) (by kernel_rfl) (by kernel_rfl) (fun _ _ _ h => h) (Or.inl ⟨?wty0, ?hyy0⟩) (by assumption) ?resty0
      case hiy0 => (simp only [List.getElem?_toArray, List.getElem?_cons_succ, List.getElem?_cons_zero]; rfl)
      case wty0 => rfl
      case hyy0 => (intro w hSw; (try dsimp only at hSw); go_simp) <;> (first | done | with_reducible rfl)
      (try simp only [Act.put, List.setIfInBounds_toArray, List.set_cons_zero, List.set_cons_succ])
      refine wpAnyH_take (i := 3) (oi := ?oiy3) (v := ?vy3) ?hiy3 (by kernel_rfl) (by kernel_rfl) (by kernel_rfl) (fun _ _ _ h => h) (Or.inl ⟨?wty3, ?hyy3⟩) (by assumption) ?resty3
      case hiy3 => (simp only [List.getElem?_toArray, List.getElem?_cons_succ, List.getElem?_cons_zero]; rfl)
      case wty3 => rfl
      case hyy3 => (intro w hSw; (try dsimp only at hSw); go_simp) <;> (first | done | with_reducible rfl)
      (try simp only [Act.put, List.setIfInBounds_toArray, List.set_cons_zero, List.set_cons_succ])
      refine wpAnyH_take (i := 4) (oi := ?oiy4) (v := ?vy4) ?hiy4 (by kernel_rfl) (by kernel_rfl) (by kernel_rfl) (fun _ _ _ h => h) (Or.inl ⟨?wty4, ?hyy4⟩) (by assumption) ?resty4
      case hiy4 => (simp only [List.getElem?_toArray, List.getElem?_cons_succ, List.getElem?_cons_zero]; rfl)
      case wty4 => rfl
      case hyy4 => (intro w hSw; (try dsimp only at hSw); go_simp) <;> (first | done | with_reducible rfl)
      (try simp only [Act.put, List.setIfInBounds_toArray, List.set_cons_zero, List.set_cons_succ])
      refine wpAnyH_ready (rs := [1]) (by kernel_rfl) (by simp) ?_
      refine AllReadyH.cons rfl (fun K hK => ?_) AllReadyH.nil
      go_simp
      go_wp2_with (go_at_call 31; refine (rseal_any _ x _ HO5.out.drew.rd (by omega)).mono ?_; rintro e w6 ⟨v6, rfl, ho6, hb6⟩; have e2 := byte_string ho6.rd; have e3 := byte_string (Rd.below HV.out (bthen HB5.out.drew hb6)))
      go_wp2_with fail
      refine hK.out _ _ ?_ (fun hHeld => ?_)
      · first | exact trivial | ((try dsimp only); exact e3)
      clear hK K
      (try simp only [Act.put, List.setIfInBounds_toArray, List.set_cons_zero, List.set_cons_succ])
      refine wpAnyH_ready (rs := [2]) (by kernel_rfl) (by simp) ?_
      refine AllReadyH.cons rfl (fun K hK => ?_) AllReadyH.nil
      go_simp
      refine hK.out _ _ ?_ (fun hHeld => ?_)
      · first | exact trivial | ((try dsimp only); exact e3)
      clear hK K
      (try simp only [Act.put, List.setIfInBounds_toArray, List.set_cons_zero, List.set_cons_succ])
      refine wpAnyH_take (i := 5) (oi := ?oiy5) (v := ?vy5) ?hiy5 (by kernel_rfl) (by kernel_rfl) (by kernel_rfl) (fun _ _ _ h => h) (Or.inl ⟨?wty5, ?hyy5⟩) (by assumption) ?resty5
      case hiy5 => (simp only [List.getElem?_toArray, List.getElem?_cons_succ, List.getElem?_cons_zero]; rfl)
      case wty5 => rfl
      case hyy5 => (intro w hSw; (try dsimp only at hSw); go_simp) <;> (first | done | with_reducible rfl)
      (try simp only [Act.put, List.setIfInBounds_toArray, List.set_cons_zero, List.set_cons_succ])
      refine wpAnyH_done (by kernel_rfl) ?_ _
      refine NoPanic.normal ?_
      go_wp2_with fail
      go_ret2
      exact ⟨_, 0, rfl, by rw [HY.out]; simp, by rw [HY.out]; exact HO5.out.drew.below hb6, (bthen HB5.out.drew hb6)⟩
    · have HN := Lib.hid (show Pl.unB l = none by unfold Pl.unB; rw [HX.out, if_neg]; rintro ⟨_, h⟩; exact hs h)
      have d1 : (!(Pl.sealB x == l)) = true := by simpa using hs
      clear hs
      refine wp_region_noPanic ?_
      refine wp_region_held_drew (S := (fun W => (convert 27 9 (.slice A l.length c0)).run Tryd.prog W = .ok (.string ⟨l.toArray⟩) W)) (by kernel_rfl) ?_ (fun hHeld => ?_)
      · first | exact trivial | ((try dsimp only); exact e1)
      refine wpAnyH_take (i := 0) (oi := ?oin0) (v := ?vn0) ?hin0 (by kernel_rfl) (by kernel_rfl) (by kernel_rfl) (fun _ _ _ h => h) (Or.inl ⟨?wtn0, ?hyn0⟩) (by assumption) ?restn0
      case hin0 => (simp only [List.getElem?_toArray, List.getElem?_cons_succ, List.getElem?_cons_zero]; rfl)
      case wtn0 => rfl
      case hyn0 => (intro w hSw; (try dsimp only at hSw); go_simp) <;> (first | done | with_reducible rfl)
      (try simp only [Act.put, List.setIfInBounds_toArray, List.set_cons_zero, List.set_cons_succ])
      refine wpAnyH_take (i := 3) (oi := ?oin3) (v := ?vn3) ?hin3 (by kernel_rfl) (by kernel_rfl) (by kernel_rfl) (fun _ _ _ h => h) (Or.inl ⟨?wtn3, ?hyn3⟩) (by assumption) ?restn3
      case hin3 => (simp only [List.getElem?_toArray, List.getElem?_cons_succ, List.getElem?_cons_zero]; rfl)
      case wtn3 => rfl
      case hyn3 => (intro w hSw; (try dsimp only at hSw); go_simp) <;> (first | done | with_reducible rfl)
      (try simp only [Act.put, List.setIfInBounds_toArray, List.set_cons_zero, List.set_cons_succ])
      refine wpAnyH_take (i := 4) (oi := ?oin4) (v := ?vn4) ?hin4 (by kernel_rfl) (by kernel_rfl) (by kernel_rfl) (fun _ _ _ h => h) (Or.inl ⟨?wtn4, ?hyn4⟩) (by assumption) ?restn4
      case hin4 => (simp only [List.getElem?_toArray, List.getElem?_cons_succ, List.getElem?_cons_zero]; rfl)
      case wtn4 => rfl
      case hyn4 => (intro w hSw; (try dsimp only at hSw); go_simp) <;> (first | done | with_reducible rfl)
      (try simp only [Act.put, List.setIfInBounds_toArray, List.set_cons_zero, List.set_cons_succ])
      refine wpAnyH_ready (rs := [1]) (by kernel_rfl) (by simp) ?_
      refine AllReadyH.cons rfl (fun K hK => ?_) AllReadyH.nil
      go_simp
      go_wp2_with (go_at_call 31; refine (rseal_any _ x _ HO5.out.drew.rd (by omega)).mono ?_; rintro e w6 ⟨v6, rfl, ho6, hb6⟩; have e2 := byte_string ho6.rd; have e3 := byte_string (Rd.below HV.out (bthen HB5.out.drew hb6)))
      go_wp2_with fail
      refine hK.out _ _ ?_ (fun hHeld => ?_)
      · first | exact trivial | ((try dsimp only); exact e3)
      clear hK K
      (try simp only [Act.put, List.setIfInBounds_toArray, List.set_cons_zero, List.set_cons_succ])
      refine wpAnyH_ready (rs := [2]) (by kernel_rfl) (by simp) ?_
      refine AllReadyH.cons rfl (fun K hK => ?_) AllReadyH.nil
      go_simp
      refine hK.out _ _ ?_ (fun hHeld => ?_)
      · first | exact trivial | ((try dsimp only); exact e3)
      clear hK K
      (try simp only [Act.put, List.setIfInBounds_toArray, List.set_cons_zero, List.set_cons_succ])
      refine wpAnyH_take (i := 5) (oi := ?oin5) (v := ?vn5) ?hin5 (by kernel_rfl) (by kernel_rfl) (by kernel_rfl) (fun _ _ _ h => h) (Or.inl ⟨?wtn5, ?hyn5⟩) (by assumption) ?restn5
      case hin5 => (simp only [List.getElem?_toArray, List.getElem?_cons_succ, List.getElem?_cons_zero]; rfl)
      case wtn5 => rfl
      case hyn5 => (intro w hSw; (try dsimp only at hSw); go_simp) <;> (first | done | with_reducible rfl)
      (try simp only [Act.put, List.setIfInBounds_toArray, List.set_cons_zero, List.set_cons_succ])
      refine wpAnyH_done (by kernel_rfl) ?_ _
      refine NoPanic.normal ?_
      go_wp2_with fail
      go_ret2
      exact unseals_no HN.out (by decide) (bthen HB5.out.drew hb6)
end Go.Proofs.YtfppbkpdpapemaaDoor
