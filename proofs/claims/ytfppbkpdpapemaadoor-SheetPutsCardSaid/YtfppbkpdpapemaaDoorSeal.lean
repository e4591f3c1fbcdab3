import Derived.Test.YtfppbkpdpapemaaDoorCrc
/-! frame.Seal; creelref03.Seal. -/
set_option linter.unusedSimpArgs false
set_option linter.unusedVariables false
namespace Go.Proofs.YtfppbkpdpapemaaDoor
open Go.RowKit Go.Proofs.YtfppbkpdpapemaaDoorW.PrintWords Go.Proofs.YtfppbkpdpapemaaDoorW.PrintLast Go.Proofs.YtfppbkpdpapemaaDoorW.PrintMore

namespace Pl
theorem set_after (l r : List UInt8) (i : Nat) (c : UInt8) : (l ++ r).set (l.length + i) c = l ++ r.set i c := by
  rw [List.set_append_right _ _ (by omega)]
  congr 2
  omega
/-- a sum's bytes in the making -/
def sealAt (n k : Nat) : List UInt8 := (sumB n).take k ++ List.replicate (4 - k) 0
theorem sealAt_len (n k : Nat) : (sealAt n k).length = min k 4 + (4 - k) := by simp [sealAt, sumB]
theorem sealAt_set (n k : Nat) (h : k < 4) : (sealAt n k).set k (UInt8.ofNat (n / 256 ^ k)) = sealAt n (k + 1) := by
  rcases k with _ | _ | _ | _ | k
  · simp [sealAt, sumB, List.replicate]
  · simp [sealAt, sumB, List.replicate]
  · simp [sealAt, sumB, List.replicate]
  · simp [sealAt, sumB, List.replicate]
  · omega
theorem byte_of (n : Nat) : ((UInt8.ofNat n).toNat : Int) = (n : Int) % 256 := by simp
end Pl
section
variable {ops : Array Oper} {rest : List Oper} {o : Oper} {a : Act} {Q : Exit → Act → World → Prop} {w0 W : World}
/-- copy(v, ys) of bytes. -/
theorem copyB (base : Nat) (hgd : o.guard = none) (s x : Operand) (ho : o.op = .call { callee := .builtin .copy, args := #[s, x], argTypes := #[27, 27] })
    (v u : Value) (xs ys : List UInt8) (hs : a.eval s = v) (hx : a.eval x = u)
    (HO : Own kb 5 W base v xs) (HR : Rd kb W u ys) (HB : Below base w0 W) (hbase : base ≤ W.heap.size)
    (h : ∀ w1, Own kb 5 w1 base v (ys.take (min ys.length xs.length) ++ xs.drop (min ys.length xs.length)) → Below base w0 w1 → W.grownBy w1 v.ownBlock → wpList Tryd.prog ops Q rest (a.put o.dst (.int .i64 ((min ys.length xs.length : Nat) : Int))) w1) :
    wpList Tryd.prog ops Q (o :: rest) a W := by
  obtain ⟨A, c, rfl, hc, hF⟩ := HR
  exact Kd.R_copy (0 : UInt8) base hgd s x 27 27 5 ho Tryd.underlying27 (by kernel_rfl) v xs ys A ys.length c _ hs hx (own_R HO) (Kd.F_now hF) HB hbase (fun w1 h1 => h w1 (Kd.R_N h1))
end

set_option maxRecDepth 100000 in
set_option maxHeartbeats 1000000 in
theorem seal_any (v : Value) (l : List UInt8) (w : World) (hv : Rd kb w v l) (hl : l.length ≤ 1099511627776) : Calls Tryd.prog 26 #[v] w fun e w' => ∃ v', e = .returned v' ∧ Own kb 5 w' w.heap.size v' (Pl.sealB l) ∧ Below w.heap.size w w' := by
  have HV := Lib.hid hv
  obtain ⟨A, c0, rfl, hc0, _⟩ := hv
  go_enter Tryd.func26, Tryd.ntmps26
  go_wp2_with (first | ((with_reducible refine gate_dst (N := 9) rfl ?_); refine mkB (w0 := w) w.heap.size rfl rfl (.tmp 8) (.tmp 8) rfl (l.length + 4) (by simp [Act.eval]) (by simp [Act.eval]) (by omega) (Below.refl _ _) (Nat.le_refl _) ?_; intro v4 w4 ho4 hb4 hg4; obtain ⟨g, cap, hv4, hg1, hg2⟩ := own_form ho4 (by simp); rw [List.length_replicate] at hv4; subst hv4; obtain ⟨he4, hc4, _⟩ := Kd.V_at ho4.v; clear he4; have hcap : ¬ cap = l.length := fun he => absurd hc4 (by omega); clear hc4; have HO4 := Lib.hid ho4; have HB4 := Lib.hid hb4; clear ho4 hb4 hg4) | ((with_reducible refine gate_builtin (b := .copy) (xs := #[.tmp 10, .tmp 11]) rfl ?_); refine copyB (w0 := w) w.heap.size rfl (.tmp 10) (.tmp 11) rfl _ _ (List.replicate (l.length + 4) 0) l rfl rfl HO4.out (Rd.below HV.out HB4.out) HB4.out HB4.out.size ?_; intro w5 ho5 hb5 hg5; have HO5 := Lib.hid (show Own kb 5 w5 w.heap.size (.slice (some ⟨g, 0, none⟩) (l.length + 4) cap) _ from ho5); have HB5 := Lib.hid hb5; clear ho5 hb5 hg5) | (go_at_call 44; refine (csum_any _ l _ (Rd.below HV.out HB5.out) hl).mono ?_; rintro e w6 ⟨rfl, hb6⟩))
  have hb60 := bthen HB5.out hb6
  have ho6 := HO5.out.below hb6
  have e0 : l.take (min l.length (List.replicate (l.length + 4) (0 : UInt8)).length) ++ (List.replicate (l.length + 4) (0 : UInt8)).drop (min l.length (List.replicate (l.length + 4) (0 : UInt8)).length) = l ++ Pl.sealAt (Pl.crcSum l) 0 := by
    rw [List.length_replicate, Nat.min_eq_left (by omega), List.take_of_length_le (Nat.le_refl _), List.drop_replicate, Nat.add_sub_cancel_left]
    rfl
  rw [e0] at ho6
  have HO6 := Lib.hid ho6
  have HB6 := Lib.hid hb60
  have hn32 := Pl.crcSum_lt l
  obtain ⟨n, hn⟩ : ∃ n, Pl.crcSum l = n := ⟨_, rfl⟩
  rw [hn] at HO6 hn32 ⊢
  have HN := Lib.hid hn
  clear hn e0 ho6 hb6 hb60 HO4 HB4 HO5 HB5
  go_loopw [5, 20] (fun x i wr => ∃ k : Nat, i = .int .i64 (k : Int) ∧ Aside0 (k ≤ 4) ∧ Aside0 (Own kb 5 wr w.heap.size (.slice (some ⟨g, 0, none⟩) (l.length + 4) cap) (l ++ Pl.sealAt n k)) ∧ Aside0 (Below w.heap.size w wr)) (fun _ i _ => 4 - (intOf i).toNat)
  case atStart => exact ⟨0, rfl, ⟨by omega⟩, ⟨HO6.out⟩, ⟨HB6.out⟩⟩
  case round =>
    obtain ⟨k, rfl, hk, HO, HB⟩ := hrel
    by_cases hlt : k < 4
    · obtain ⟨y1, y2⟩ := own_cell HO.out (l.length + k) (by simp [Pl.sealAt_len]; omega)
      obtain ⟨y0, hy0⟩ : ∃ z, ((l ++ Pl.sealAt n k).getD (l.length + k) 0).toNat = z := ⟨_, rfl⟩
      rw [hy0] at y1
      have q1 : (0 : Int) ≤ (l.length : Int) := by omega
      have hS := Pl.sealAt_set n k hlt
      have HS := Lib.hid (show (l ++ Pl.sealAt n k).set (l.length + k) (UInt8.ofNat (n / 256 ^ k)) = l ++ Pl.sealAt n (k + 1) by rw [Pl.set_after, hS])
      have HP := Lib.hid (own_put HO.out (l.length + k) (UInt8.ofNat (n / 256 ^ k)))
      rw [HS.out, Pl.byte_of] at HP
      clear hS hy0
      rcases (show k = 0 ∨ k = 1 ∨ k = 2 ∨ k = 3 by omega) with rfl | rfl | rfl | rfl
      · rw [Nat.add_zero] at y1 y2
        go_wp2_with fail
        go_roundw
        case rel => exact ⟨1, rfl, ⟨by omega⟩, ⟨by have hp := HP.out; rw [show (((n / 256 ^ 0 : Nat) : Int) % 256) = (n : Int) % 256 by rw [show (256 : Nat) ^ 0 = 1 from rfl]; omega] at hp; exact hp⟩, ⟨bset HB.out hg1 _⟩⟩
        case measure => decide
      · go_wp2_with fail
        go_roundw
        case rel => exact ⟨2, rfl, ⟨by omega⟩, ⟨by have hp := HP.out; rw [show (((n / 256 ^ 1 : Nat) : Int) % 256) = (n : Int) / 256 % 256 by rw [show (256 : Nat) ^ 1 = 256 from rfl]; omega] at hp; exact hp⟩, ⟨bset HB.out hg1 _⟩⟩
        case measure => decide
      · go_wp2_with fail
        go_roundw
        case rel => exact ⟨3, rfl, ⟨by omega⟩, ⟨by have hp := HP.out; rw [show (((n / 256 ^ 2 : Nat) : Int) % 256) = (n : Int) / 65536 % 256 by rw [show (256 : Nat) ^ 2 = 65536 from rfl]; omega] at hp; exact hp⟩, ⟨bset HB.out hg1 _⟩⟩
        case measure => decide
      · go_wp2_with fail
        go_roundw
        case rel => exact ⟨4, rfl, ⟨by omega⟩, ⟨by have hp := HP.out; rw [show (((n / 256 ^ 3 : Nat) : Int) % 256) = (n : Int) / 16777216 by rw [show (256 : Nat) ^ 3 = 16777216 from rfl]; omega] at hp; exact hp⟩, ⟨bset HB.out hg1 _⟩⟩
        case measure => decide
    · obtain rfl : k = 4 := by have := hk.out; omega
      go_wp2_with fail
      go_ret
      refine ⟨_, rfl, ?_, HB.out⟩
      rw [Pl.sealB, HN.out]
      exact HO.out

set_option maxRecDepth 100000 in
set_option maxHeartbeats 1000000 in
theorem rseal_any (v : Value) (l : List UInt8) (w : World) (hv : Rd kb w v l) (hl : l.length ≤ 1099511627776) : Calls Tryd.prog 31 #[v] w fun e w' => ∃ v', e = .returned v' ∧ Own kb 5 w' w.heap.size v' (Pl.sealB l) ∧ Below w.heap.size w w' := by
  have HV := Lib.hid hv
  obtain ⟨A, c0, rfl, hc0, _⟩ := hv
  have HL := lit_own w w.heap.size [] [] rfl (Nat.le_refl _) (by simp)
  have HB := below_alloc (Below.refl _ w) (.cells #[] 5)
  have HLH := Lib.hid HL
  have HBH := Lib.hid HB
  clear HL HB
  have hn32 := Pl.crcSum_lt l
  obtain ⟨n, hn⟩ : ∃ n, Pl.crcSum l = n := ⟨_, rfl⟩
  have HN := Lib.hid hn
  rw [hn] at hn32
  have HLIT := Lib.hid (show [Value.int .u8 ((n : Int) % 256), .int .u8 ((n : Int) / 256 % 256), .int .u8 ((n : Int) / 65536 % 256), .int .u8 ((n : Int) / 16777216)] = (Pl.sumB n).map fun c => Value.int .u8 (c.toNat : Int) by
    simp only [Pl.sumB, List.map_cons, List.map_nil, Pl.byte_of]
    congr 1
    congr 1
    congr 1
    congr 1
    congr 1
    omega)
  clear hn
  go_enter Tryd.func31, Tryd.ntmps31
  go_wp2_with (first | (go_at_call 45; refine (rsum_any _ l _ HV.out hl).mono ?_; rw [HN.out]; rintro e w6 ⟨rfl, rfl⟩) | ((with_reducible refine gate_builtin (b := .append) (xs := #[.tmp 6, .tmp 7]) rfl ?_); at_builtin; refine appN (w0 := w) w.heap.size rfl (.tmp 6) (.tmp 7) rfl _ _ [] l rfl rfl HLH.out (Rd.below HV.out HBH.out) HBH.out HBH.out.size (by simp; omega) ?_; intro v5 w5 ho5 hb5 hg5 hat5; have HO5 := Lib.hid ho5; have HB5 := Lib.hid hb5; clear ho5 hb5 hg5 hat5) | ((with_reducible refine gate_builtin (b := .append) (xs := #[.tmp 8, .tmp 23]) rfl ?_); at_builtin; refine appN (w0 := w) w.heap.size rfl (.tmp 8) (.tmp 23) rfl _ (.slice (some ⟨w5.heap.size, 0, none⟩) 4 4) l (Pl.sumB n) rfl rfl (HO5.out.alloc _) (Kd.V_mono (lit_rd w5 4 #[.int .u8 ((n : Int) % 256), .int .u8 ((n : Int) / 256 % 256), .int .u8 ((n : Int) / 65536 % 256), .int .u8 ((n : Int) / 16777216)] 5 (0, 0) (Pl.sumB n) HLIT.out (by simp [Pl.sumB]) (by simp [Pl.sumB])) fun _ _ => trivial) (HB5.out.alloc HB5.out.size _) (HB5.out.alloc HB5.out.size _).size (by simp [Pl.sumB]; omega) ?_; intro v7 w7 ho7 hb7 hg7 hat7))
  go_ret
  refine ⟨_, rfl, ?_, hb7⟩
  rw [Pl.sealB, HN.out]
  exact ho7
end Go.Proofs.YtfppbkpdpapemaaDoor
