import Derived.Test.YtfppbkpdpapemaaDoorNote
import Derived.Test.YtfppbkpdpapemaaDoorRef11
import Derived.Test.YtfppbkpdpapemaaDoorRFix
import Derived.Test.YtfppbkpdpapemaaDoorRPut
/-! creelref20.config, creelref20.Note. -/
set_option linter.unusedSimpArgs false
set_option linter.unusedVariables false
namespace Go.Proofs.YtfppbkpdpapemaaDoor
open Go.RowKit Go.Proofs.YtfppbkpdpapemaaDoorW.PrintWords Go.Proofs.YtfppbkpdpapemaaDoorW.PrintLast Go.Proofs.YtfppbkpdpapemaaDoorW.PrintMore

/-- the flags' sum so far -/
def flx : List (Bool × Int) → Int
  | [] => 0
  | (b, k) :: l => (if b then k else 0) + flx l
theorem merge {P : Program} {c : Code} {Q : Exit → Act → World → Prop} {a : Act} {W : World} (R : Act → Prop) (h1 : c.wp P (fun e a' w' => e = .normal ∧ w' = W ∧ R a') a W) (h2 : ∀ a', R a' → Q .normal a' W) : c.wp P Q a W :=
  Code.wp_mono (by rintro e a' w' ⟨rfl, rfl, h⟩; exact h2 a' h) h1
theorem confB_len (c : Pl.Cfg) (h : 2 ≤ c.bud ∧ c.bud ≤ 4096 ∧ 2 ≤ c.fan ∧ c.fan ≤ 16 ∧ 1 ≤ c.sha ∧ c.sha ≤ 16) : (Pl.confB c).length ≤ 32 := by
  have l1 := Pl.putB_len10 (n := c.bud.toNat) (by omega)
  have l2 := Pl.putB_len10 (n := c.fan.toNat) (by omega)
  have l3 := Pl.putB_len10 (n := c.sha.toNat) (by omega)
  simp [Pl.confB]
  omega
theorem rfix_int (v : Value) (l0 : List UInt8) (z : Int) (w : World) (hv : Rd kb w v l0) (h0 : 0 ≤ z) (h1 : z < 18446744073709551616) (hl : l0.length ≤ 1099511627776) :
    Calls Tryd.prog 30 #[v, .int .u64 z, .int .i64 4] w fun e w' => ∃ v' : Value, e = .returned v' ∧ Own kb 5 w' w.heap.size v' (l0 ++ Pl.fixB 4 z.toNat) ∧ Below w.heap.size w w' := by
  have := rfix_any v l0 z.toNat 4 w hv (by omega) (by omega) (by omega) hl
  rw [show ((z.toNat : Nat) : Int) = z by omega] at this
  exact this
theorem lit_two (W : World) (g base : Nat) (a b : UInt8) (x : Int) (hg : g = W.heap.size) (hx : x = (b.toNat : Int)) (hb : base ≤ W.heap.size) : Own kb 5 (W.alloc (.cells #[.int .u8 (a.toNat : Int), .int .u8 x] 5)) base (.slice (some ⟨g, 0, none⟩) 2 2) [a, b] := by
  subst hg hx
  exact lit_own W base [a, b] [.int .u8 (a.toNat : Int), .int .u8 (b.toNat : Int)] rfl hb (by simp)
theorem flx_flags : ∀ a1 a2 a3 a4 a5 : Bool, flx [(a1, 1), (a2, 2), (a3, 4), (a4, 8), (a5, 16)] = (((Pl.flag a1 1 ||| Pl.flag a2 2 ||| Pl.flag a3 4 ||| Pl.flag a4 8 ||| Pl.flag a5 16).toNat : Nat) : Int) := by decide +kernel

set_option maxRecDepth 100000 in
set_option maxHeartbeats 4000000 in
theorem rconfig20_any (c : Pl.Cfg) (w : World) (h : CfgIn c) (h0 : 0 ≤ c.bud) (h1 : 0 ≤ c.fan) (h2 : 0 ≤ c.sha) : Calls Tryd.prog 28 #[cfgV c] w fun e w' => ∃ v' : Value, e = .returned v' ∧ Own kb 5 w' w.heap.size v' (Pl.confB c) ∧ Below w.heap.size w w' := by
  obtain ⟨fmt, num, skip, both, loops, back, bud, fan, sha⟩ := c
  obtain ⟨b1, b2, f1, f2, s1, s2⟩ := h
  simp only at h0 h1 h2 b1 b2 f1 f2 s1 s2
  have w1 : IntKind.u64.wrap bud = bud := IntWalk.u64_in _ (by omega)
  have w2 : IntKind.u64.wrap fan = fan := IntWalk.u64_in _ (by omega)
  have w3 : IntKind.u64.wrap sha = sha := IntWalk.u64_in _ (by omega)
  have HL1 := Lib.hid (Pl.putB_len10 (n := bud.toNat) (by omega))
  have HL2 := Lib.hid (Pl.putB_len10 (n := fan.toNat) (by omega))
  go_enter Tryd.func28, Tryd.ntmps28
  go_upto_region 1 with fail
  refine wp_at fun W1 hW1 => ?_
  have hb1 : Below w.heap.size w W1 := by rw [← hW1]; exact below_alloc (Below.refl _ _) _
  have KB : Blk W1 w.heap.size #[.int .u8 (fmt.toNat : Int), .bool num, .bool skip, .bool both, .bool loops, .bool back, .int .i64 bud, .int .i64 fan, .int .i64 sha] 23 := by rw [← hW1]; exact Blk.new _ _ _
  have q0 := KB.cell.1 0
  have q1 := KB.cell.1 1
  have q2 := KB.cell.1 2
  have q3 := KB.cell.1 3
  have q4 := KB.cell.1 4
  have q5 := KB.cell.1 5
  have hs1 : W1.heap.size = w.heap.size + 1 := by rw [← hW1]; simp
  clear hW1
  go_upto_region 2 with fail
  rename_i K1 aK1 K0 aK0
  suffices hK : ∀ (g : Int) (x5 x6 x7 x8 : Value), g = 0 + (if num then 1 else 0) → K1 { tmps := #[cfgV ⟨fmt, num, skip, both, loops, back, bud, fan, sha⟩, .pointer (some ⟨w.heap.size, 0, none⟩), .slice none 0 0, .int .u8 (g), undef, x5, x6, x7, x8, undef, undef, undef, undef, undef, undef, undef, undef, undef, undef, undef, undef, undef, undef, undef, undef, undef, undef, undef, undef, undef, undef, undef, undef, undef, undef, undef, undef, undef, undef, undef, undef, undef, undef, undef], defers := [] } W1 by
    clear aK1
    cases num <;> go_wp2_with fail
  intro g1 x5 x6 x7 x8 hg1
  refine aK1 _ _ ?_
  clear K0 aK0
  have HG1 := Lib.hid hg1
  have r1a : 0 ≤ g1 := by rw [hg1]; split <;> omega
  have r1b : g1 ≤ 1 := by rw [hg1]; split <;> omega
  clear hg1
  go_upto_region 4 with fail
  rename_i K1 aK1 K0 aK0
  suffices hK : ∀ (g : Int) (x9 x10 x11 x12 : Value), g = g1 + (if skip then 2 else 0) → K1 { tmps := #[cfgV ⟨fmt, num, skip, both, loops, back, bud, fan, sha⟩, .pointer (some ⟨w.heap.size, 0, none⟩), .slice none 0 0, .int .u8 (g), undef, x5, x6, x7, x8, x9, x10, x11, x12, undef, undef, undef, undef, undef, undef, undef, undef, undef, undef, undef, undef, undef, undef, undef, undef, undef, undef, undef, undef, undef, undef, undef, undef, undef, undef, undef, undef, undef, undef, undef], defers := [] } W1 by
    clear aK1
    cases skip <;> go_wp2_with fail
  intro g2 x9 x10 x11 x12 hg2
  refine aK1 _ _ ?_
  clear K0 aK0
  have HG2 := Lib.hid hg2
  have r2a : 0 ≤ g2 := by rw [hg2]; split <;> omega
  have r2b : g2 ≤ 3 := by rw [hg2]; split <;> omega
  clear hg2
  go_upto_region 6 with fail
  rename_i K1 aK1 K0 aK0
  suffices hK : ∀ (g : Int) (x13 x14 x15 x16 : Value), g = g2 + (if both then 4 else 0) → K1 { tmps := #[cfgV ⟨fmt, num, skip, both, loops, back, bud, fan, sha⟩, .pointer (some ⟨w.heap.size, 0, none⟩), .slice none 0 0, .int .u8 (g), undef, x5, x6, x7, x8, x9, x10, x11, x12, x13, x14, x15, x16, undef, undef, undef, undef, undef, undef, undef, undef, undef, undef, undef, undef, undef, undef, undef, undef, undef, undef, undef, undef, undef, undef, undef, undef, undef, undef, undef], defers := [] } W1 by
    clear aK1
    cases both <;> go_wp2_with fail
  intro g3 x13 x14 x15 x16 hg3
  refine aK1 _ _ ?_
  clear K0 aK0
  have HG3 := Lib.hid hg3
  have r3a : 0 ≤ g3 := by rw [hg3]; split <;> omega
  have r3b : g3 ≤ 7 := by rw [hg3]; split <;> omega
  clear hg3
  go_upto_region 8 with fail
  rename_i K1 aK1 K0 aK0
  suffices hK : ∀ (g : Int) (x17 x18 x19 x20 : Value), g = g3 + (if loops then 8 else 0) → K1 { tmps := #[cfgV ⟨fmt, num, skip, both, loops, back, bud, fan, sha⟩, .pointer (some ⟨w.heap.size, 0, none⟩), .slice none 0 0, .int .u8 (g), undef, x5, x6, x7, x8, x9, x10, x11, x12, x13, x14, x15, x16, x17, x18, x19, x20, undef, undef, undef, undef, undef, undef, undef, undef, undef, undef, undef, undef, undef, undef, undef, undef, undef, undef, undef, undef, undef, undef, undef], defers := [] } W1 by
    clear aK1
    cases loops <;> go_wp2_with fail
  intro g4 x17 x18 x19 x20 hg4
  refine aK1 _ _ ?_
  clear K0 aK0
  have HG4 := Lib.hid hg4
  have r4a : 0 ≤ g4 := by rw [hg4]; split <;> omega
  have r4b : g4 ≤ 15 := by rw [hg4]; split <;> omega
  clear hg4
  go_upto_region 10 with fail
  rename_i K1 aK1 K0 aK0
  suffices hK : ∀ (g : Int) (x21 x22 x23 x24 : Value), g = g4 + (if back then 16 else 0) → K1 { tmps := #[cfgV ⟨fmt, num, skip, both, loops, back, bud, fan, sha⟩, .pointer (some ⟨w.heap.size, 0, none⟩), .slice none 0 0, .int .u8 (g), undef, x5, x6, x7, x8, x9, x10, x11, x12, x13, x14, x15, x16, x17, x18, x19, x20, x21, x22, x23, x24, undef, undef, undef, undef, undef, undef, undef, undef, undef, undef, undef, undef, undef, undef, undef, undef, undef, undef, undef], defers := [] } W1 by
    clear aK1
    cases back <;> go_wp2_with fail
  intro g5 x21 x22 x23 x24 hg5
  refine aK1 _ _ ?_
  clear K0 aK0
  have HG5 := Lib.hid hg5
  have r5a : 0 ≤ g5 := by rw [hg5]; split <;> omega
  have r5b : g5 ≤ 31 := by rw [hg5]; split <;> omega
  clear hg5
  have hgf : g5 = ((Pl.flags ⟨fmt, num, skip, both, loops, back, bud, fan, sha⟩).toNat : Int) := by
    rw [show ((Pl.flags ⟨fmt, num, skip, both, loops, back, bud, fan, sha⟩).toNat : Int) = flx [(num, 1), (skip, 2), (both, 4), (loops, 8), (back, 16)] from (flx_flags num skip both loops back).symm, HG5.out, HG4.out, HG3.out, HG2.out, HG1.out]
    simp only [flx]
    omega
  have HL := Lib.hid (lit_two W1 (w.heap.size + 1) w.heap.size fmt (Pl.flags ⟨fmt, num, skip, both, loops, back, bud, fan, sha⟩) g5 hs1.symm hgf (by omega))
  obtain ⟨f, hf⟩ : ∃ f, Pl.flags ⟨fmt, num, skip, both, loops, back, bud, fan, sha⟩ = f := ⟨_, rfl⟩
  have HF := Lib.hid hf
  rw [hf] at HL
  have q6 := (KB.alloc (.cells #[.int .u8 (fmt.toNat : Int), .int .u8 g5] 5)).cell.1 6
  clear hgf hf HG1 HG2 HG3 HG4 HG5 q1 q2 q3 q4 q5
  go_wp2_with fail
  refine calls_at fun W2 hW2 => ?_
  have HLd := HL.out
  have K2 := KB.alloc (.cells #[.int .u8 (fmt.toNat : Int), .int .u8 g5] 5)
  have hb2 := hb1.alloc hb1.size (.cells #[.int .u8 (fmt.toNat : Int), .int .u8 g5] 5)
  rw [hW2] at HLd K2 hb2
  have HK2 := Lib.hid K2
  have HB2 := Lib.hid hb2
  clear hW2 hb2 K2 HL KB hb1 q0 q6
  refine (rput_int _ [fmt, f] bud _ HLd.rd h0 (by omega) (by simp)).mono ?_
  rintro e w2 ⟨v2, rfl, ho2, hb2⟩
  obtain ⟨L2, hL2⟩ : ∃ L, [fmt, f] ++ Pl.putB bud.toNat = L := ⟨_, rfl⟩
  have l2 : L2.length ≤ 12 := by have := HL1.out; rw [← hL2]; simp; omega
  rw [hL2] at ho2
  have HE2 := Lib.hid hL2
  clear hL2
  obtain ⟨A2, c2, hv2⟩ := Kd.N_slice ho2
  subst hv2
  have K2 := HK2.out.belowW hb2
  have q7 := K2.cell.1 7
  have HB3 := Lib.hid (bthen HB2.out hb2)
  have HO2 := Lib.hid ho2
  have HK3 := Lib.hid K2
  clear hb2 ho2 K2 HK2 HB2 HLd
  go_wp2_with fail
  refine (rput_int _ L2 fan _ HO2.out.rd h1 (by omega) (by omega)).mono ?_
  rintro e w3 ⟨v3, rfl, ho3, hb3⟩
  obtain ⟨L3, hL3⟩ : ∃ L, L2 ++ Pl.putB fan.toNat = L := ⟨_, rfl⟩
  have l3 : L3.length ≤ 22 := by have := HL2.out; rw [← hL3]; simp; omega
  rw [hL3] at ho3
  have HE3 := Lib.hid hL3
  clear hL3
  obtain ⟨A3, c3, hv3⟩ := Kd.N_slice ho3
  subst hv3
  have K3 := HK3.out.belowW hb3
  have q8 := K3.cell.1 8
  have HB4 := Lib.hid (bthen HB3.out hb3)
  have HO3 := Lib.hid ho3
  clear hb3 ho3 K3 HB3 HO2 HK3 q7
  go_wp2_with fail
  refine (rput_int _ L3 sha _ HO3.out.rd h2 (by omega) (by omega)).mono ?_
  rintro e w4 ⟨v4, rfl, ho4, hb4⟩
  have hs3 := HB4.out.size
  have HO4 := Lib.hid (ho4.lower hs3)
  have HB5 := Lib.hid (bthen HB4.out hb4)
  clear ho4 hb4
  go_wp2_with fail
  go_ret
  refine ⟨_, rfl, ?_, HB5.out⟩
  rw [Pl.confB, HF.out, HE2.out, HE3.out]
  exact HO4.out

set_option maxRecDepth 100000 in
set_option maxHeartbeats 2000000 in
theorem rnote20_any (c : Pl.Cfg) (n s : Int) (w : World) (h : CfgIn c) (hn : n ≤ 9223372036854775807) (hs0 : 0 ≤ s) (hs : s < 4294967296) : Calls Tryd.prog 15 #[cfgV c, .int .i64 n, .int .u32 s] w (OptB (Pl.note c n s) w) := by
  have hn0 : -9223372036854775808 ≤ n ∨ n < -9223372036854775808 := by omega
  go_enter Tryd.func15, Tryd.ntmps15
  go_wp2_with fail
  refine calls_at fun W1 hW1 => ?_
  have hb1 : Below w.heap.size w W1 := by rw [← hW1]; exact below_alloc (Below.refl _ _) _
  have K1 : Blk W1 w.heap.size #[.int .u8 (c.fmt.toNat : Int), .bool c.num, .bool c.skip, .bool c.both, .bool c.loops, .bool c.back, .int .i64 c.bud, .int .i64 c.fan, .int .i64 c.sha] 23 := by rw [← hW1]; exact Blk.new _ _ _
  clear hW1
  refine (rright11_any c W1).mono ?_
  rintro e w2 ⟨rfl, hb2⟩
  have K2 := K1.belowW hb2
  have HB2 := Lib.hid (bthen hb1 hb2)
  clear hb1 hb2 K1
  rcases hr : Pl.right c with _ | _
  · have HN := Lib.hid (show Pl.note c n s = none by simp [Pl.note, hr])
    clear hr
    go_wp2_with fail
    go_ret2
    rw [HN.out]
    exact ⟨_, rfl, Own.nil _ _ _ _, HB2.out⟩
  · by_cases hneg : n < 0
    · have hd : decide (n < 0) = true := by simp; omega
      have HN := Lib.hid (show Pl.note c n s = none by rw [Pl.note, if_neg]; rintro ⟨h1, _⟩; omega)
      clear hr
      go_wp2_with fail
      go_ret2
      rw [HN.out]
      exact ⟨_, rfl, Own.nil _ _ _ _, HB2.out⟩
    · have hd : decide (n < 0) = false := by simp; omega
      have HN := Lib.hid (show Pl.note c n s = some (Pl.noteB c n.toNat s.toNat) by rw [Pl.note, if_pos ⟨by omega, hr⟩])
      have hbd := Pl.right_bounds hr
      have hw1 : IntKind.u64.wrap n = n := IntWalk.u64_in _ (by omega)
      have hw2 : IntKind.u64.wrap s = s := IntWalk.u64_in _ (by omega)
      obtain ⟨q0, q1, q2, q3, q4, q5, q6, q7, q8⟩ : w2.cell? ⟨w.heap.size, 0, none⟩ = some (.int .u8 (c.fmt.toNat : Int)) ∧ w2.cell? ⟨w.heap.size, 1, none⟩ = some (.bool c.num) ∧ w2.cell? ⟨w.heap.size, 2, none⟩ = some (.bool c.skip) ∧ w2.cell? ⟨w.heap.size, 3, none⟩ = some (.bool c.both) ∧ w2.cell? ⟨w.heap.size, 4, none⟩ = some (.bool c.loops) ∧ w2.cell? ⟨w.heap.size, 5, none⟩ = some (.bool c.back) ∧ w2.cell? ⟨w.heap.size, 6, none⟩ = some (.int .i64 c.bud) ∧ w2.cell? ⟨w.heap.size, 7, none⟩ = some (.int .i64 c.fan) ∧ w2.cell? ⟨w.heap.size, 8, none⟩ = some (.int .i64 c.sha) := ⟨K2.cell.1 0, K2.cell.1 1, K2.cell.1 2, K2.cell.1 3, K2.cell.1 4, K2.cell.1 5, K2.cell.1 6, K2.cell.1 7, K2.cell.1 8⟩
      have lcf := confB_len c hbd
      obtain ⟨CF, hCF⟩ : ∃ L, Pl.confB c = L := ⟨_, rfl⟩
      rw [hCF] at lcf
      have lpl := Pl.putB_len10 (n := n.toNat) (by omega)
      obtain ⟨PN, hPN⟩ : ∃ L, Pl.putB n.toNat = L := ⟨_, rfl⟩
      rw [hPN] at lpl
      obtain ⟨L4, hL4⟩ : ∃ L, CF ++ PN = L := ⟨_, rfl⟩
      have l4 : L4.length ≤ 42 := by rw [← hL4]; simp; omega
      have HE := Lib.hid (⟨hCF, hPN, hL4⟩ : Pl.confB c = CF ∧ Pl.putB n.toNat = PN ∧ CF ++ PN = L4)
      clear hCF hPN hL4
      have HBD := Lib.hid hbd
      clear hr K2 hbd
      go_wp2_with (first | (go_at_call 28; refine (rconfig20_any c _ h (by have := HBD.out; omega) (by have := HBD.out; omega) (by have := HBD.out; omega)).mono ?_; rintro e w3 ⟨v3, rfl, ho3, hb3⟩; rw [HE.out.1] at ho3; obtain ⟨A3, c3, hv3⟩ := Kd.N_slice ho3; subst hv3; have HO3 := Lib.hid ho3; have HB3 := Lib.hid (bthen HB2.out hb3); clear ho3 hb3) | (go_at_call 29; refine (rput_int _ CF n _ HO3.out.rd (by omega) (by omega) (by omega)).mono ?_; rintro e w4 ⟨v4, rfl, ho4, hb4⟩; rw [HE.out.2.1, HE.out.2.2] at ho4; obtain ⟨A4, c4, hv4⟩ := Kd.N_slice ho4; subst hv4; have HO4 := Lib.hid ho4; have HB4 := Lib.hid (bthen HB3.out hb4); clear ho4 hb4) | (go_at_call 30; refine (rfix_int _ L4 s _ HO4.out.rd hs0 (by omega) (by omega)).mono ?_; rintro e w5 ⟨v5, rfl, ho5, hb5⟩; have HO5 := Lib.hid (ho5.lower HB4.out.size); have HB5 := Lib.hid (bthen HB4.out hb5); clear ho5 hb5))
      go_ret2
      rw [HN.out, Pl.noteB, HE.out.1, HE.out.2.1, HE.out.2.2]
      exact ⟨_, rfl, HO5.out, HB5.out⟩
end Go.Proofs.YtfppbkpdpapemaaDoor
