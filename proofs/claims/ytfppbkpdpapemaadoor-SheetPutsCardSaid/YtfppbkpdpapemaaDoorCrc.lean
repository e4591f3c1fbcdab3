import Derived.Test.YtfppbkpdpapemaaDoorPlainCrc
import Derived.Below
import Derived.Laws.Rows
import Derived.Laws.CopyOwn
import Derived.Deep.WholeRow
/-! crc.Table, crc.Add, crc.Sum; creelref02's. -/
set_option linter.unusedSimpArgs false
set_option linter.unusedVariables false
namespace Go.Proofs.YtfppbkpdpapemaaDoor
open Go.RowKit Go.Proofs.YtfppbkpdpapemaaDoorW.PrintWords Go.Proofs.YtfppbkpdpapemaaDoorW.PrintLast Go.Proofs.YtfppbkpdpapemaaDoorW.PrintMore

/-- a table in the making: the first i entries stand -/
structure TabAt (W : World) (g i : Nat) : Prop where
  out : ∃ cs : Array Value, Blk W g cs 85 ∧ cs.size = 256 ∧ ∀ j, j < i → cs[j]? = some (.int .u32 ((Pl.crcEntry j : Nat) : Int))

theorem tab_put {cs : Array Value} {k x : Nat} (hs : cs.size = 256) (h : ∀ j, j < k → cs[j]? = some (.int .u32 ((Pl.crcEntry j : Nat) : Int))) (hk : k < 256) (hx : Pl.crcIter 8 k = x) (j : Nat) (hj : j < k + 1) : (cs.setIfInBounds k (.int .u32 ((x : Nat) : Int)))[j]? = some (.int .u32 ((Pl.crcEntry j : Nat) : Int)) := by
  by_cases e : k = j
  · subst e
    rw [Array.getElem?_setIfInBounds_self_of_lt (by omega), ← hx]
    rfl
  · rw [Array.getElem?_setIfInBounds_ne e]
    exact h j (by omega)
theorem tab_one {cs : Array Value} (hs : cs.size = 256) (h : ∀ j, j < 256 → cs[j]? = some (.int .u32 ((Pl.crcEntry j : Nat) : Int))) : cs.all (·.oneCell') = true := by
  refine Array.all_eq_true_iff_forall_mem.2 fun v hv => ?_
  obtain ⟨j, hj, rfl⟩ := Array.getElem_of_mem hv
  have := h j (by omega)
  rw [Array.getElem?_eq_getElem hj] at this
  injection this with this
  rw [this]
  rfl
set_option maxRecDepth 100000 in
set_option maxHeartbeats 1000000 in
theorem table_any (w : World) : Calls Tryd.prog 58 #[] w fun e w' => ∃ xs : Array Value, e = .returned (.agg xs) ∧ xs.size = 256 ∧ (∀ j, j < 256 → xs[j]? = some (.int .u32 ((Pl.crcEntry j : Nat) : Int))) ∧ Below w.heap.size w w' := by
  go_enter Tryd.func58, Tryd.ntmps58
  go_wp2_with fail
  refine wp_at fun W1 hW1 => ?_
  have hb1 : Below w.heap.size w W1 := by rw [← hW1]; exact below_alloc (below_alloc (Below.refl _ _) _) _
  have K1 : Blk W1 (w.heap.size + 1) Tryd.zeroCells85 85 := by
    rw [← hW1]
    have := Blk.new (w.alloc (.cells Tryd.zeroCells85 85)) Tryd.zeroCells85 85
    rw [World.size_alloc] at this
    exact this
  have K0 : Blk W1 w.heap.size Tryd.zeroCells85 85 := by
    rw [← hW1]
    exact (Blk.new w _ _).alloc _
  have hz : Tryd.zeroCells85.size = 256 := by kernel_rfl
  have HK0 := Lib.hid K0
  clear K0 hW1
  have T1 := Lib.hid (⟨⟨_, K1, hz, fun j hj => by omega⟩⟩ : TabAt W1 (w.heap.size + 1) 0)
  clear K1 hz
  go_loopw [2, 3, 4, 9] (fun a b i d wr => ∃ k : Nat, i = .int .i64 (k : Int) ∧ Aside0 (k ≤ 256) ∧ Aside0 (TabAt wr (w.heap.size + 1) k) ∧ Aside0 (Blk wr w.heap.size Tryd.zeroCells85 85) ∧ Aside0 (Below w.heap.size w wr)) (fun _ _ i _ _ => 256 - (intOf i).toNat)
  case atStart => exact ⟨0, rfl, ⟨by omega⟩, ⟨T1.out⟩, ⟨HK0.out⟩, ⟨hb1⟩⟩
  case round =>
    obtain ⟨k, rfl, hk, HT, HK, HB⟩ := hrel
    by_cases hlt : k < 256
    · have hk0 : (0 : Int) ≤ (k : Int) := by omega
      obtain ⟨cs, KT, hsz, hcs⟩ := HT.out.out
      have HCS := Lib.hid hcs
      have hcc : wr.cell? ⟨w.heap.size + 1, k, none⟩ = some (cs[k]'(by omega)) := by
        have := KT.cell.1 k
        rw [this]
        exact Array.getElem?_eq_getElem (by omega)
      have hfz : wr.frozen? ⟨w.heap.size + 1, k, none⟩ = false := KT.cell.2 k
      have HKT := Lib.hid KT
      have HSZ := Lib.hid hsz
      obtain ⟨c0, hc0⟩ : ∃ z, cs[k]'(by omega) = z := ⟨_, rfl⟩
      rw [hc0] at hcc
      clear hcs KT hsz hc0
      go_wp2_with fail
      go_loop [3, 9] (fun c d => ∃ m : Nat, d = .int .i64 (m : Int) ∧ c = .int .u32 ((Pl.crcIter m k : Nat) : Int) ∧ Aside0 (m ≤ 8)) (fun _ d => 8 - (intOf d).toNat)
      case atStart => exact ⟨0, rfl, rfl, ⟨by omega⟩⟩
      case round =>
        obtain ⟨m, rfl, rfl, hm⟩ := hrel
        obtain ⟨x, hx⟩ : ∃ x, Pl.crcIter m k = x := ⟨_, rfl⟩
        have hx32 : x < 4294967296 := by rw [← hx]; exact Pl.crcIter_lt (by omega) m
        have HX := Lib.hid hx
        rw [hx]
        clear hx
        by_cases hlt8 : m < 8
        · have HTS := Lib.hid (tab_step x hx32)
          go_wp2_with fail
          go_round
          case rel => exact ⟨m + 1, by go_num, by rw [HTS.out, Pl.crcIter, HX.out], ⟨by omega⟩⟩
          case measure => simp [intOf]; omega
        · obtain rfl : m = 8 := by have := hm.out; omega
          go_wp2_with fail
          go_roundw
          case rel => exact ⟨k + 1, by go_num, ⟨by omega⟩, ⟨⟨_, HKT.out.set k _ rfl, by simp; exact HSZ.out, fun j hj => tab_put HSZ.out HCS.out hlt HX.out j hj⟩⟩, ⟨HK.out.far (by simp) _⟩, ⟨bset HB.out (by simp) _⟩⟩
          case measure => simp [intOf]; omega
    · obtain rfl : k = 256 := by have := hk.out; omega
      obtain ⟨cs, KT, hsz, hcs⟩ := HT.out.out
      have HCS := Lib.hid hcs
      have HSZ := Lib.hid hsz
      clear hcs hsz
      have HI := Lib.hid (show (Tryd.prog.info? 85).map (·.size) = some cs.size by rw [HSZ.out]; kernel_rfl)
      have H1 := Lib.hid (tab_one HSZ.out HCS.out)
      have HKT := Lib.hid KT
      have hz : Tryd.zeroCells85.size = 256 := by kernel_rfl
      have HZ := Lib.hid (show Tryd.zeroCells85.size = cs.size by rw [hz, HSZ.out])
      clear KT hz
      go_wp2_with fail
      refine wp_load_row 85 (.tmp 1) rfl (w.heap.size + 1) rfl 85 cs (0, 0) _ HKT.out.out Tryd.underlying85 rfl HI.out ?_
      have hst : (storeCells ⟨w.heap.size, 0, none⟩ cs.toList).run Tryd.prog wr = .ok () (wr.setRow w.heap.size cs) := by
        have := run_storeCells_from (P := Tryd.prog) w.heap.size 85 cs.toList 0 Tryd.zeroCells85 wr HK.out.out (by simp; exact HZ.out.symm) (fun v hv => (Array.all_eq_true_iff_forall_mem.1 H1.out) v (by simpa using hv))
        simpa using this
      have hcl : ∀ j, (wr.setRow w.heap.size cs).cell? ⟨w.heap.size, j, none⟩ = cs[j]? := fun j => cell_setRow_same wr w.heap.size j _ cs _ _ HK.out.out
      have HSR := Lib.hid (setRow_heap wr w.heap.size _ cs _ _ HK.out.out)
      have HBR := Lib.hid (below_setRow HB.out (Nat.le_refl _) cs)
      clear hcl
      go_wp2_with fail
      (try simp only [Exit.inBlock, Exit.then])
      refine bodyPost_ret (results_cell_row rfl _ _ w.heap.size 85 cs (0, 0) _ rfl HSR.out Tryd.underlying85 rfl HI.out) rfl ?_
      exact ⟨cs, rfl, HSZ.out, HCS.out, HBR.out⟩

set_option maxRecDepth 100000 in
set_option maxHeartbeats 1000000 in
theorem rentry_any (i : Nat) (hi : i < 4294967296) (w : World) : Calls Tryd.prog 59 #[.int .u32 (i : Int)] w fun e w' => e = .returned (.int .u32 ((Pl.crcEntry i : Nat) : Int)) ∧ w = w' := by
  go_enter Tryd.func59, Tryd.ntmps59
  go_wp2_with fail
  go_loop [0, 3] (fun c d => ∃ m : Nat, d = .int .i64 (m : Int) ∧ c = .int .u32 ((Pl.crcIter m i : Nat) : Int) ∧ Aside0 (m ≤ 8)) (fun _ d => 8 - (intOf d).toNat)
  case atStart => exact ⟨0, rfl, rfl, ⟨by omega⟩⟩
  case round =>
    obtain ⟨m, rfl, rfl, hm⟩ := hrel
    obtain ⟨x, hx⟩ : ∃ x, Pl.crcIter m i = x := ⟨_, rfl⟩
    have hx32 : x < 4294967296 := by rw [← hx]; exact Pl.crcIter_lt (by omega) m
    have HX := Lib.hid hx
    rw [hx]
    clear hx
    by_cases hlt8 : m < 8
    · by_cases ho : x % 2 = 1
      · have HTS := Lib.hid (ref_step x hx32 ho)
        have hb : ((x : Int) % 2 == 1) = true := by rw [beq_iff_eq]; omega
        clear ho
        go_wp2_with fail
        go_round
        case rel => exact ⟨m + 1, by go_num, by rw [HTS.out, Pl.crcIter, HX.out], ⟨by omega⟩⟩
        case measure => simp [intOf]; omega
      · have HTS := Lib.hid (show Pl.crcStep x = x / 2 by unfold Pl.crcStep; rw [if_neg ho])
        have hb : ((x : Int) % 2 == 1) = false := by rw [beq_eq_false_iff_ne]; omega
        clear ho
        go_wp2_with fail
        go_round
        case rel => exact ⟨m + 1, by go_num, by rw [Pl.crcIter, HX.out, HTS.out]; simp, ⟨by omega⟩⟩
        case measure => simp [intOf]; omega
    · obtain rfl : m = 8 := by have := hm.out; omega
      go_wp2_with fail
      go_ret
      exact ⟨by rw [← HX.out]; rfl, rfl⟩

set_option maxRecDepth 100000 in
set_option maxHeartbeats 1000000 in
theorem radd_any (v : Value) (l : List UInt8) (w : World) (hv : Rd kb w v l) (hl : l.length ≤ 1099511627776) : Calls Tryd.prog 52 #[.int .u32 0, v] w fun e w' => e = .returned (.int .u32 ((Pl.crcSum l : Nat) : Int)) ∧ w = w' := by
  obtain ⟨A, c0, rfl, hc0, hF⟩ := hv
  have HF := Lib.hid hF
  clear hF
  go_enter Tryd.func52, Tryd.ntmps52
  have hx0 : bits .xor .u32 4294967295 0 = 4294967295 := by decide
  go_wp2_with fail
  clear hx0
  go_loop [5, 6] (fun c d => ∃ m : Nat, d = .int .i64 (m : Int) ∧ c = .int .u32 ((Pl.crcGo 4294967295 (l.take m) : Nat) : Int) ∧ Aside0 (m ≤ l.length)) (fun _ d => l.length - (intOf d).toNat)
  case atStart => exact ⟨0, rfl, rfl, ⟨by omega⟩⟩
  case round =>
    obtain ⟨m, rfl, rfl, hm⟩ := hrel
    obtain ⟨x, hx⟩ : ∃ x, Pl.crcGo 4294967295 (l.take m) = x := ⟨_, rfl⟩
    have hx32 : x < 4294967296 := by rw [← hx]; exact Pl.crcGo_lt _ (by omega)
    have HX := Lib.hid hx
    rw [hx]
    clear hx
    by_cases hlt : m < l.length
    · obtain ⟨ad, rfl, hcell⟩ := kb_cell HF.out m hlt
      obtain ⟨b, hb⟩ : ∃ b, l.getD m 0 = b := ⟨_, rfl⟩
      rw [hb] at hcell
      have hb8 := UInt8.toNat_lt b
      have HS := Lib.hid (show Pl.crcGo 4294967295 (l.take (m + 1)) = Pl.crcByte x b.toNat by
        have e : l.take (m + 1) = l.take m ++ [b] := by
          rw [List.take_add_one, ← hb]
          simp [List.getD, hlt]
        rw [e, Pl.crcGo_snoc, HX.out])
      obtain ⟨y, hy⟩ : ∃ y, b.toNat = y := ⟨_, rfl⟩
      rw [hy] at hcell hb8 HS
      have h1 : bits .xor .u32 (x : Int) (y : Int) = ((x ^^^ y : Nat) : Int) := xor32 x y hx32 (by omega)
      have hxy : x ^^^ y < 4294967296 := Nat.xor_lt_two_pow (n := 32) hx32 (by omega)
      obtain ⟨z, hz⟩ : ∃ z, x ^^^ y = z := ⟨_, rfl⟩
      rw [hz] at h1 hxy
      have HZ := Lib.hid hz
      have q1 : (0 : Int) ≤ (m : Int) := by omega
      have q2 : (m : Int) < (l.length : Int) := by omega
      clear hb hy hz
      go_wp2_with (go_at_call 59; rw [show ((z : Int) % 256) = ((z % 256 : Nat) : Int) by omega]; refine (rentry_any (z % 256) (by omega) _).mono ?_; rintro e w1 ⟨rfl, rfl⟩)
      go_round
      case rel => exact ⟨m + 1, by go_num, by rw [HS.out, Pl.crcByte, HZ.out, ← xor32 _ _ (Pl.crcEntry_lt (by omega)) (by omega)]; simp, ⟨by omega⟩⟩
      case measure => simp [intOf]; omega
    · obtain rfl : m = l.length := by have := hm.out; omega
      have h1 : bits .xor .u32 4294967295 (x : Int) = ((4294967295 - x : Nat) : Int) := not32 x hx32
      go_wp2_with fail
      go_ret
      refine ⟨?_, rfl⟩
      rw [Pl.crcSum, ← HX.out, List.take_of_length_le (Nat.le_refl _)]
      simp
theorem tab_store {cs : Array Value} (hs : cs.size = 256) (h : ∀ j, j < 256 → cs[j]? = some (.int .u32 ((Pl.crcEntry j : Nat) : Int))) (W : World) : (storeCells ⟨W.heap.size, 0, none⟩ cs.toList).run Tryd.prog (W.alloc (.cells Tryd.zeroCells85 85)) = .ok () (W.alloc (.cells cs 85)) := by
  have hz : Tryd.zeroCells85.size = 256 := by kernel_rfl
  have := run_storeCells_from (P := Tryd.prog) W.heap.size 85 cs.toList 0 Tryd.zeroCells85 (W.alloc (.cells Tryd.zeroCells85 85)) (heap_alloc_new W _) (by simp; omega) (fun v hv => (Array.all_eq_true_iff_forall_mem.1 (tab_one hs h)) v (by simpa using hv))
  rw [show (List.take 0 Tryd.zeroCells85.toList ++ cs.toList).toArray = cs by simp, World.setRow_alloc_new] at this
  exact this
set_option maxRecDepth 100000 in
set_option maxHeartbeats 1000000 in
theorem cadd_any (v : Value) (l : List UInt8) (w : World) (hv : Rd kb w v l) (hl : l.length ≤ 1099511627776) : Calls Tryd.prog 51 #[.int .u32 0, v] w fun e w' => e = .returned (.int .u32 ((Pl.crcSum l : Nat) : Int)) ∧ Below w.heap.size w w' := by
  have HV := Lib.hid hv
  obtain ⟨A, c0, rfl, hc0, _⟩ := hv
  go_enter Tryd.func51, Tryd.ntmps51
  go_wp2_with (go_at_call 58; refine (table_any _).mono ?_; rintro e w1 ⟨cs, rfl, hsz, hcs, hb1⟩; have hst := tab_store hsz hcs w1; have HB1 := Lib.hid hb1; have HCS := Lib.hid hcs; have HSZ := Lib.hid hsz; clear hsz hcs hb1)
  refine wp_at fun W2 hW2 => ?_
  have hb2 : Below w.heap.size w W2 := by rw [← hW2]; exact below_alloc HB1.out _
  have K2 : Blk W2 w1.heap.size cs 85 := by rw [← hW2]; exact Blk.new _ _ _
  have HF := Lib.hid (Kd.V_at (Rd.below HV.out hb2)).2.2
  have hT : ∀ j, j < 256 → W2.cell? ⟨w1.heap.size, j, none⟩ = some (.int .u32 ((Pl.crcEntry j : Nat) : Int)) := fun j hj => (K2.cell.1 j).trans (HCS.out j hj)
  have HT := Lib.hid hT
  have HB2 := Lib.hid hb2
  clear hT hst hW2 HB1 hb2 K2
  go_loop [6, 14] (fun c d => ∃ m : Nat, d = .int .i64 (m : Int) ∧ c = .int .u32 ((Pl.crcGo 4294967295 (l.take m) : Nat) : Int) ∧ Aside0 (m ≤ l.length)) (fun _ d => l.length - (intOf d).toNat)
  case atStart => exact ⟨0, rfl, by rw [show bits .xor .u32 IntKind.u32.max 0 = 4294967295 by decide]; rfl, ⟨by omega⟩⟩
  case round =>
    obtain ⟨m, rfl, rfl, hm⟩ := hrel
    obtain ⟨x, hx⟩ : ∃ x, Pl.crcGo 4294967295 (l.take m) = x := ⟨_, rfl⟩
    have hx32 : x < 4294967296 := by rw [← hx]; exact Pl.crcGo_lt _ (by omega)
    have HX := Lib.hid hx
    rw [hx]
    clear hx
    by_cases hlt : m < l.length
    · obtain ⟨ad, rfl, hcell⟩ := kb_cell HF.out m hlt
      obtain ⟨b, hb⟩ : ∃ b, l.getD m 0 = b := ⟨_, rfl⟩
      rw [hb] at hcell
      have hb8 := UInt8.toNat_lt b
      have HS := Lib.hid (show Pl.crcGo 4294967295 (l.take (m + 1)) = Pl.crcByte x b.toNat by
        have e : l.take (m + 1) = l.take m ++ [b] := by
          rw [List.take_add_one, ← hb]
          simp [List.getD, hlt]
        rw [e, Pl.crcGo_snoc, HX.out])
      obtain ⟨y, hy⟩ : ∃ y, b.toNat = y := ⟨_, rfl⟩
      rw [hy] at hcell hb8 HS
      have h1 : bits .xor .u8 ((x : Int) % 256) (y : Int) = (((x ^^^ y) % 256 : Nat) : Int) := xor8 x y (by omega)
      have hz8 : (x ^^^ y) % 256 < 256 := by omega
      have hct := HT.out _ hz8
      obtain ⟨z, hz⟩ : ∃ z, (x ^^^ y) % 256 = z := ⟨_, rfl⟩
      rw [hz] at h1 hct hz8
      have HZ := Lib.hid hz
      have q1 : (0 : Int) ≤ (m : Int) := by omega
      have q2 : (m : Int) < (l.length : Int) := by omega
      have q3 : (0 : Int) ≤ (z : Int) := by omega
      have q4 : (z : Int) < 256 := by omega
      clear hb hy hz hz8
      go_wp2_with fail
      go_round
      case rel => exact ⟨m + 1, by go_num, by rw [HS.out, Pl.crcByte, HZ.out, ← xor32 _ _ (Pl.crcEntry_lt (by omega)) (by omega)]; simp, ⟨by omega⟩⟩
      case measure => simp [intOf]; omega
    · obtain rfl : m = l.length := by have := hm.out; omega
      have h1 : bits .xor .u32 4294967295 (x : Int) = ((4294967295 - x : Nat) : Int) := not32 x hx32
      go_wp2_with fail
      go_ret
      refine ⟨?_, HB2.out⟩
      show Ending.returned (.int .u32 (bits .xor .u32 IntKind.u32.max (x : Int))) = _
      rw [show IntKind.u32.max = 4294967295 from rfl, h1, Pl.crcSum, ← HX.out, List.take_of_length_le (Nat.le_refl _)]
theorem csum_any (v : Value) (l : List UInt8) (w : World) (hv : Rd kb w v l) (hl : l.length ≤ 1099511627776) : Calls Tryd.prog 44 #[v] w fun e w' => e = .returned (.int .u32 ((Pl.crcSum l : Nat) : Int)) ∧ Below w.heap.size w w' := by
  go_enter Tryd.func44, Tryd.ntmps44
  go_wp2_with (go_at_call 51; refine (cadd_any _ l _ hv hl).mono ?_; rintro e w1 ⟨rfl, hb1⟩)
  go_ret
  exact ⟨rfl, hb1⟩
theorem rsum_any (v : Value) (l : List UInt8) (w : World) (hv : Rd kb w v l) (hl : l.length ≤ 1099511627776) : Calls Tryd.prog 45 #[v] w fun e w' => e = .returned (.int .u32 ((Pl.crcSum l : Nat) : Int)) ∧ w = w' := by
  go_enter Tryd.func45, Tryd.ntmps45
  go_wp2_with (go_at_call 52; refine (radd_any _ l _ hv hl).mono ?_; rintro e w1 ⟨rfl, rfl⟩)
  go_ret
  exact ⟨rfl, rfl⟩
end Go.Proofs.YtfppbkpdpapemaaDoor
