import Derived.Test.YtfppbkpdpapemaaDoorBase
import Derived.Test.YtfppbkpdpapemaaDoorCfgKit
import Derived.Test.YtfppbkpdpapemaaDoorRight
/-! vary.Put, vary.Fix. -/
namespace Go.Proofs.YtfppbkpdpapemaaDoor
open Go.RowKit Go.Proofs.YtfppbkpdpapemaaDoorW.PrintWords Go.Proofs.YtfppbkpdpapemaaDoorW.PrintLast Go.Proofs.YtfppbkpdpapemaaDoorW.PrintMore

theorem or128 (m : Nat) : bits BinOp.or IntKind.u8 ((m : Int) % 256) 128 = ((UInt8.ofNat (m % 128 + 128)).toNat : Int) := by
  have key : ∀ k : Fin 256, bits BinOp.or IntKind.u8 (k.val : Int) 128 = ((k.val % 128 + 128 : Nat) : Int) := by decide +kernel
  have := key ⟨m % 256, by omega⟩
  simp only [Int.natCast_emod] at this
  rw [show ((m : Int) % 256) = ((m : Int) % ((256 : Nat) : Int)) from rfl, this]
  simp
  omega
set_option maxRecDepth 100000 in
theorem put_any (v : Value) (l0 : List UInt8) (n : Nat) (w : World) (hv : Rd kb w v l0) (hn : n < 18446744073709551616) (hl : l0.length ≤ 1099511627776) :
    Calls Tryd.prog 24 #[v, .int .u64 (n : Int)] w fun e w' => ∃ v' : Value, e = .returned v' ∧ Own kb 5 w' w.heap.size v' (l0 ++ Pl.putB n) ∧ Below w.heap.size w w' := by
  have HR := Lib.hid hv
  have HN := Lib.hid (Pl.putB_len10 hn)
  have hn' : (n : Int) ≤ 18446744073709551615 := by omega
  clear hv hn
  go_enter Tryd.func24, Tryd.ntmps24
  go_wp2_with (go_at_call 42; refine (clone_any _ _ _ HR.out (by omega)).mono ?_; rintro e w1 ⟨v1, rfl, ho1, hb1⟩; have HO1 := Lib.hid ho1; have HB1 := Lib.hid hb1; clear ho1 hb1)
  go_loopw [5, 1] (fun v i wr => ∃ (m : Nat) (pre : List UInt8), i = .int .u64 (m : Int) ∧ Aside0 (m < 18446744073709551616) ∧ Aside0 (l0 ++ Pl.putB n = pre ++ Pl.putB m) ∧ Aside0 (Own kb 5 wr w.heap.size v pre) ∧ Aside0 (Below w.heap.size w wr)) (fun _ i _ => (intOf i).toNat)
  case atStart => exact ⟨n, l0, rfl, ⟨by omega⟩, ⟨rfl⟩, ⟨HO1.out⟩, ⟨HB1.out⟩⟩
  case round =>
    obtain ⟨m, pre, rfl, hm, hpre, HO, HB⟩ := hrel
    have hp8 : pre.length ≤ 1099511627786 := by
      have h1 := congrArg List.length hpre.out
      rw [List.length_append, List.length_append] at h1
      have := HN.out
      omega
    have hm' : (m : Int) ≤ 18446744073709551615 := by have := hm.out; omega
    by_cases h : m < 128
    · have hd : decide ((128 : Int) ≤ (m : Int)) = false := by simp; omega
      have e1 : (((UInt8.ofNat m).toNat : Nat) : Int) = (m : Int) := by simp; omega
      have HE := Lib.hid e1
      clear e1
      go_wp2_with ((with_reducible refine gate_builtin (b := .append) (xs := #[.tmp 18, .tmp 21]) rfl ?_); at_builtin; refine app1 (w0 := w) w.heap.size rfl (.tmp 18) (.tmp 21) rfl _ pre (UInt8.ofNat m) _ ?hi rfl rfl HO.out HB.out HB.out.size (by omega) ?_; (case hi => exact HE.out.symm); intro v5 w5 ho5 hb5 hg5 hat5)
      go_ret
      exact ⟨_, rfl, by rw [hpre.out, Pl.putB_small h]; exact ho5, hb5⟩
    · have hd : decide ((128 : Int) ≤ (m : Int)) = true := by simp; omega
      go_wp2_with ((with_reducible refine gate_builtin (b := .append) (xs := #[.tmp 12, .tmp 16]) rfl ?_); at_builtin; refine app1 (w0 := w) w.heap.size rfl (.tmp 12) (.tmp 16) rfl _ pre (UInt8.ofNat (m % 128 + 128)) _ ?hi rfl rfl HO.out HB.out HB.out.size (by omega) ?_; (case hi => exact or128 m); intro v5 w5 ho5 hb5 hg5 hat5)
      go_roundw
      case rel => exact ⟨m / 128, _, by go_num, ⟨by have := hm.out; omega⟩, ⟨by rw [hpre.out, Pl.putB_big h]; simp⟩, ⟨ho5⟩, ⟨hb5⟩⟩
      case measure => simp [intOf] <;> omega
theorem put_int (v : Value) (l0 : List UInt8) (z : Int) (w : World) (hv : Rd kb w v l0) (h0 : 0 ≤ z) (h1 : z < 18446744073709551616) (hl : l0.length ≤ 1099511627776) :
    Calls Tryd.prog 24 #[v, .int .u64 z] w fun e w' => ∃ v' : Value, e = .returned v' ∧ Own kb 5 w' w.heap.size v' (l0 ++ Pl.putB z.toNat) ∧ Below w.heap.size w w' := by
  have := put_any v l0 z.toNat w hv (by omega) hl
  rw [show ((z.toNat : Nat) : Int) = z by omega] at this
  exact this
set_option maxRecDepth 100000 in
theorem fix_any (v : Value) (l0 : List UInt8) (n s : Nat) (w : World) (hv : Rd kb w v l0) (hn : n < 18446744073709551616) (hs1 : 1 ≤ s) (hs8 : s ≤ 8) (hl : l0.length ≤ 1099511627776) :
    Calls Tryd.prog 23 #[v, .int .u64 (n : Int), .int .i64 (s : Int)] w fun e w' => ∃ v' : Value, e = .returned v' ∧ Own kb 5 w' w.heap.size v' (l0 ++ Pl.fixB s n) ∧ Below w.heap.size w w' := by
  have HR := Lib.hid hv
  clear hv
  have hd1 : decide ((s : Int) < 1) = false := by simp; omega
  have hd2 : decide ((8 : Int) < (s : Int)) = false := by simp; omega
  go_enter Tryd.func23, Tryd.ntmps23
  go_wp2_with (go_at_call 42; refine (clone_any _ _ _ HR.out (by omega)).mono ?_; rintro e w1 ⟨v1, rfl, ho1, hb1⟩; have HO1 := Lib.hid ho1; have HB1 := Lib.hid hb1; clear ho1 hb1)
  clear hd1 hd2
  have HN := Lib.hid hn
  clear hn
  go_loopw [7, 8] (fun v i wr => ∃ (k : Nat) (pre : List UInt8), i = .int .i64 ((k : Int) - 1) ∧ Aside0 (k ≤ s) ∧ Aside0 (l0 ++ Pl.fixB s n = pre ++ Pl.fixB k n) ∧ Aside0 (Own kb 5 wr w.heap.size v pre) ∧ Aside0 (Below w.heap.size w wr)) (fun _ i _ => (intOf i + 1).toNat)
  case atStart => exact ⟨s, l0, rfl, ⟨by omega⟩, ⟨rfl⟩, ⟨HO1.out⟩, ⟨HB1.out⟩⟩
  case round =>
    obtain ⟨k, pre, rfl, hk, hpre, HO, HB⟩ := hrel
    rcases k with _ | j
    · rw [show (((0 : Nat) : Int) - 1) = -1 by omega]
      go_wp2
      go_ret
      exact ⟨_, rfl, by rw [hpre.out]; simp [Pl.fixB]; exact HO.out, HB.out⟩
    · rw [show (((j + 1 : Nat) : Int) - 1) = (j : Int) by omega]
      have hj7 : j ≤ 7 := by have := hk.out; omega
      have hp8 : pre.length ≤ 1099511627784 := by
        have h1 := congrArg List.length hpre.out
        rw [List.length_append, List.length_append, Pl.fixB_len] at h1
        omega
      go_wp2_with ((with_reducible refine gate_builtin (b := .append) (xs := #[.tmp 24, .tmp 30]) rfl ?_); at_builtin; refine app1 (w0 := w) w.heap.size rfl (.tmp 24) (.tmp 30) rfl u7 pre (Pl.byteAt n j) _ (Pl.byteAt_int n j).symm rfl rfl HO.out HB.out HB.out.size (by omega) ?_; intro v5 w5 ho5 hb5 hg5 hat5)
      go_roundw
      case rel => exact ⟨j, _, by go_num, ⟨by have := hk.out; omega⟩, ⟨by rw [hpre.out]; simp [Pl.fixB]⟩, ⟨ho5⟩, ⟨hb5⟩⟩
      case measure => simp [intOf] <;> omega

end Go.Proofs.YtfppbkpdpapemaaDoor
/-! sheet.flag, sheet.config, sheet.Note. -/
set_option linter.unusedSimpArgs false
set_option linter.unusedVariables false
namespace Go.Proofs.YtfppbkpdpapemaaDoor
open Go.RowKit Go.Proofs.YtfppbkpdpapemaaDoorW.PrintWords Go.Proofs.YtfppbkpdpapemaaDoorW.PrintLast Go.Proofs.YtfppbkpdpapemaaDoorW.PrintMore

/-- At a piece's end: the world under a name. -/
theorem exit_at {Q : Exit → Act → World → Prop} {e : Exit} {a : Act} {W : World} (h : ∀ W', W = W' → Q e a W') : Q e a W := h W rfl
def fl (b : Bool) (k : Int) : Int := if b then k else 0
theorem flag_any (b : Bool) (k : Int) (w : World) : Calls Tryd.prog 43 #[.bool b, .int .u8 k] w fun e w' => e = .returned (.int .u8 (fl b k)) ∧ w = w' := by
  cases b with
  | true =>
    go_enter Tryd.func43, Tryd.ntmps43
    go_wp2_with fail
    go_ret
    exact ⟨rfl, rfl⟩
  | false =>
    go_enter Tryd.func43, Tryd.ntmps43
    go_wp2_with fail
    go_ret
    exact ⟨rfl, rfl⟩
theorem flags_bits : ∀ a1 a2 a3 a4 a5 : Bool, bits BinOp.or IntKind.u8 (bits BinOp.or IntKind.u8 (bits BinOp.or IntKind.u8 (bits BinOp.or IntKind.u8 (fl a1 1) (fl a2 2)) (fl a3 4)) (fl a4 8)) (fl a5 16) = (((Pl.flag a1 1 ||| Pl.flag a2 2 ||| Pl.flag a3 4 ||| Pl.flag a4 8 ||| Pl.flag a5 16).toNat : Nat) : Int) := by decide +kernel

/-- Between two rounds of config. -/
def ConfAt (c : Pl.Cfg) (k : Int) (pre : List UInt8) : Prop :=
  (k = 0 ∧ pre = [c.fmt, Pl.flags c]) ∨ (k = 1 ∧ pre = [c.fmt, Pl.flags c] ++ Pl.putB c.bud.toNat) ∨ (k = 2 ∧ pre = [c.fmt, Pl.flags c] ++ Pl.putB c.bud.toNat ++ Pl.putB c.fan.toNat) ∨ (k = 3 ∧ pre = Pl.confB c)

set_option maxRecDepth 100000 in
set_option maxHeartbeats 2000000 in
theorem config_any (c : Pl.Cfg) (w : World) (h : CfgIn c) (h0 : 0 ≤ c.bud) (h1 : 0 ≤ c.fan) (h2 : 0 ≤ c.sha) : Calls Tryd.prog 25 #[cfgV c] w fun e w' => ∃ v' : Value, e = .returned v' ∧ Own kb 5 w' w.heap.size v' (Pl.confB c) ∧ Below w.heap.size w w' := by
  go_enter Tryd.func25, Tryd.ntmps25
  go_wp2_with fail
  refine wp_at fun W1 hW1 => ?_
  have hb1 : Below w.heap.size w W1 := by rw [← hW1]; exact below_alloc (Below.refl _ _) _
  have hs1 : W1.heap.size = w.heap.size + 1 := by rw [← hW1]; simp
  have K1 : Blk W1 w.heap.size #[.int .u8 (c.fmt.toNat : Int), .bool c.num, .bool c.skip, .bool c.both, .bool c.loops, .bool c.back, .int .i64 c.bud, .int .i64 c.fan, .int .i64 c.sha] 23 := by rw [← hW1]; exact Blk.new _ _ _
  clear hW1
  have KC := Lib.hid K1.drew.cell.1
  have HX : Aside0 (W1.drew.cell? ⟨w.heap.size, 0, none⟩ = some (.int .u8 (c.fmt.toNat : Int)) ∧ W1.drew.cell? ⟨w.heap.size, 1, none⟩ = some (.bool c.num) ∧ W1.drew.cell? ⟨w.heap.size, 2, none⟩ = some (.bool c.skip) ∧ W1.drew.cell? ⟨w.heap.size, 3, none⟩ = some (.bool c.both) ∧ W1.drew.cell? ⟨w.heap.size, 4, none⟩ = some (.bool c.loops) ∧ W1.drew.cell? ⟨w.heap.size, 5, none⟩ = some (.bool c.back)) :=
    ⟨⟨KC.out 0, KC.out 1, KC.out 2, KC.out 3, KC.out 4, KC.out 5⟩⟩
  go_region_held3 (fun W => W.cell? ⟨w.heap.size, 0, none⟩ = some (.int .u8 (c.fmt.toNat : Int)) ∧ W.cell? ⟨w.heap.size, 1, none⟩ = some (.bool c.num) ∧ W.cell? ⟨w.heap.size, 2, none⟩ = some (.bool c.skip) ∧ W.cell? ⟨w.heap.size, 3, none⟩ = some (.bool c.both) ∧ W.cell? ⟨w.heap.size, 4, none⟩ = some (.bool c.loops) ∧ W.cell? ⟨w.heap.size, 5, none⟩ = some (.bool c.back)) (first | exact HX.out | exact ⟨(K1.alloc _).drew.cell.1 0, (K1.alloc _).drew.cell.1 1, (K1.alloc _).drew.cell.1 2, (K1.alloc _).drew.cell.1 3, (K1.alloc _).drew.cell.1 4, (K1.alloc _).drew.cell.1 5⟩)
    (first | (go_at_call 43; refine (flag_any _ _ _).mono ?_; rintro e w6 ⟨rfl, rfl⟩))
  rename_i hheld
  clear hheld
  rw [flags_bits]
  have hfl : Pl.flag c.num 1 ||| Pl.flag c.skip 2 ||| Pl.flag c.both 4 ||| Pl.flag c.loops 8 ||| Pl.flag c.back 16 = Pl.flags c := rfl
  rw [hfl]
  clear hfl
  obtain ⟨f, hf⟩ : ∃ f, Pl.flags c = f := ⟨_, rfl⟩
  rw [hf]
  have HF := Lib.hid hf
  clear hf
  refine exit_at fun W2 hW2 => ?_
  have HL := lit_own W1 w.heap.size [c.fmt, f] [.int .u8 (c.fmt.toNat : Int), .int .u8 (f.toNat : Int)] rfl (by omega) (by simp)
  have HO := Lib.hid HL.drew
  have hb2 : Below w.heap.size w W2 := by rw [← hW2]; exact (hb1.alloc (by omega) _).drew
  have K2 : Blk W2 w.heap.size #[.int .u8 (c.fmt.toNat : Int), .bool c.num, .bool c.skip, .bool c.both, .bool c.loops, .bool c.back, .int .i64 c.bud, .int .i64 c.fan, .int .i64 c.sha] 23 := by rw [← hW2]; exact (K1.alloc _).drew
  rw [show (W1.alloc (.cells [Value.int .u8 (c.fmt.toNat : Int), .int .u8 (f.toNat : Int)].toArray 5)).drew = W2 from hW2, hs1] at HO
  clear hW2 HL HX KC K1 hs1 hb1
  obtain ⟨c2, c2f⟩ := K2.cell
  have c6 := c2 6
  have c7 := c2 7
  have c8 := c2 8
  clear c2 c2f
  go_wp2_with fail
  refine wp_at fun W3 hW3 => ?_
  have hb3 : Below w.heap.size w W3 := by rw [← hW3]; exact hb2.alloc hb2.size _
  have K3 : Blk W3 W2.heap.size #[.int .i64 c.bud, .int .i64 c.fan, .int .i64 c.sha] 3 := by rw [← hW3]; exact Blk.new _ _ _
  have HO3 := Lib.hid (HO.out.alloc (.cells #[.int .i64 c.bud, .int .i64 c.fan, .int .i64 c.sha] 3))
  rw [hW3] at HO3
  have hg : w.heap.size ≤ W2.heap.size := hb2.size
  obtain ⟨g, hgg⟩ : ∃ g, W2.heap.size = g := ⟨_, rfl⟩
  rw [hgg] at K3 hg ⊢
  clear hW3 HO hb2 K2 c6 c7 c8 hgg
  rw [← HF.out] at HO3
  have hz0 := h.b1
  have hz1 := h.f1
  have hz2 := h.s1
  go_loopw [3, 36] (fun v i wr => ∃ (k : Int) (pre : List UInt8), i = .int .i64 k ∧ Aside0 (ConfAt c k pre) ∧ Aside0 (Own kb 5 wr w.heap.size v pre) ∧ Aside0 (Below w.heap.size w wr) ∧ Aside0 (Blk wr g #[.int .i64 c.bud, .int .i64 c.fan, .int .i64 c.sha] 3)) (fun _ i _ => (3 - intOf i).toNat)
  case atStart => exact ⟨0, _, rfl, ⟨.inl ⟨rfl, rfl⟩⟩, ⟨HO3.out⟩, ⟨hb3⟩, ⟨K3⟩⟩
  case round =>
    obtain ⟨k, pre, rfl, hk, HO, HB, HK⟩ := hrel
    have c0 := HK.out.cell.1 0
    have c1 := HK.out.cell.1 1
    have c2 := HK.out.cell.1 2
    rcases hk.out with ⟨rfl, hp⟩ | ⟨rfl, hp⟩ | ⟨rfl, hp⟩ | ⟨rfl, hp⟩
    · have HP := Lib.hid hp
      have hlen : pre.length ≤ 1000 := by
        have e1 := Pl.putB_len10 (n := c.bud.toNat) (by omega)
        have e2 := Pl.putB_len10 (n := c.fan.toNat) (by omega)
        rw [hp]
        simp
        try omega
      clear hp hk
      go_wp2_with fail
      refine (put_int _ pre _ _ HO.out.rd (by omega) (by omega) (by omega)).mono ?_
      rintro e w6 ⟨v6, rfl, ho6, hb6⟩
      have HO6 := Lib.hid (ho6.lower HB.out.size)
      have HB6 := Lib.hid (bthen HB.out hb6)
      have HK6 := Lib.hid (HK.out.belowW hb6)
      clear ho6 hb6
      go_wp2_with fail
      go_roundw
      case rel => exact ⟨1, _, rfl, ⟨.inr (.inl ⟨rfl, by rw [HP.out]⟩)⟩, ⟨HO6.out⟩, ⟨HB6.out⟩, ⟨HK6.out⟩⟩
      case measure => simp [intOf]
    · have HP := Lib.hid hp
      have hlen : pre.length ≤ 1000 := by
        have e1 := Pl.putB_len10 (n := c.bud.toNat) (by omega)
        have e2 := Pl.putB_len10 (n := c.fan.toNat) (by omega)
        rw [hp]
        simp
        try omega
      clear hp hk
      go_wp2_with fail
      refine (put_int _ pre _ _ HO.out.rd (by omega) (by omega) (by omega)).mono ?_
      rintro e w6 ⟨v6, rfl, ho6, hb6⟩
      have HO6 := Lib.hid (ho6.lower HB.out.size)
      have HB6 := Lib.hid (bthen HB.out hb6)
      have HK6 := Lib.hid (HK.out.belowW hb6)
      clear ho6 hb6
      go_wp2_with fail
      go_roundw
      case rel => exact ⟨2, _, rfl, ⟨.inr (.inr (.inl ⟨rfl, by rw [HP.out]⟩))⟩, ⟨HO6.out⟩, ⟨HB6.out⟩, ⟨HK6.out⟩⟩
      case measure => simp [intOf]
    · have HP := Lib.hid hp
      have hlen : pre.length ≤ 1000 := by
        have e1 := Pl.putB_len10 (n := c.bud.toNat) (by omega)
        have e2 := Pl.putB_len10 (n := c.fan.toNat) (by omega)
        rw [hp]
        simp
        try omega
      clear hp hk
      go_wp2_with fail
      refine (put_int _ pre _ _ HO.out.rd (by omega) (by omega) (by omega)).mono ?_
      rintro e w6 ⟨v6, rfl, ho6, hb6⟩
      have HO6 := Lib.hid (ho6.lower HB.out.size)
      have HB6 := Lib.hid (bthen HB.out hb6)
      have HK6 := Lib.hid (HK.out.belowW hb6)
      clear ho6 hb6
      go_wp2_with fail
      go_roundw
      case rel => exact ⟨3, _, rfl, ⟨.inr (.inr (.inr ⟨rfl, by rw [HP.out]; rfl⟩))⟩, ⟨HO6.out⟩, ⟨HB6.out⟩, ⟨HK6.out⟩⟩
      case measure => simp [intOf]
    · have HP := Lib.hid hp
      clear hp hk
      go_wp2_with fail
      go_ret
      exact ⟨_, rfl, by rw [← HP.out]; exact HO.out, HB.out⟩
/-- What answers bytes, or none. -/
def OptB (o : Option (List UInt8)) (w : World) (e : Ending) (w' : World) : Prop := ∃ v' : Value, e = .returned (.tuple #[v', .bool o.isSome]) ∧ Own kb 5 w' w.heap.size v' (o.getD []) ∧ Below w.heap.size w w'
/-- the note of a text -/
def Pl.note (c : Pl.Cfg) (n s : Int) : Option (List UInt8) := if 0 ≤ n ∧ Pl.right c = true then some (Pl.noteB c n.toNat s.toNat) else none

set_option maxRecDepth 100000 in
set_option maxHeartbeats 2000000 in
theorem note_any (c : Pl.Cfg) (n s : Int) (w : World) (h : CfgIn c) (hn : n ≤ 9223372036854775807) (hs0 : 0 ≤ s) (hs : s < 4294967296) : Calls Tryd.prog 11 #[cfgV c, .int .i64 n, .int .u32 s] w (OptB (Pl.note c n s) w) := by
  by_cases h0 : 0 ≤ n
  · rcases hr : Pl.right c with _ | _
    · rw [show Pl.note c n s = none by simp [Pl.note, hr]]
      have HR := Lib.hid hr
      have hd : decide (n < 0) = false := by simp; omega
      clear hr
      go_enter Tryd.func11, Tryd.ntmps11
      go_wp2_with fail
      refine calls_at fun W1 hW1 => ?_
      have hb1 : Below w.heap.size w W1 := by rw [← hW1]; exact below_alloc (Below.refl _ _) _
      clear hW1
      refine (right_any c W1).mono ?_
      rintro e w2 ⟨rfl, hb2⟩
      rw [HR.out]
      have HB := Lib.hid (bthen hb1 hb2)
      clear hb1 hb2
      go_wp2_with fail
      go_ret2
      exact ⟨_, rfl, Own.nil _ _ _ _, HB.out⟩
    · rw [show Pl.note c n s = some (Pl.noteB c n.toNat s.toNat) by simp [Pl.note, hr, h0]]
      have hbd := Pl.right_bounds hr
      have HR := Lib.hid hr
      have hd : decide (n < 0) = false := by simp; omega
      have HC := Lib.hid h
      have HS := Lib.hid hbd
      clear hr h hbd
      go_enter Tryd.func11, Tryd.ntmps11
      go_wp2_with fail
      refine calls_at fun W1 hW1 => ?_
      have hb1 : Below w.heap.size w W1 := by rw [← hW1]; exact below_alloc (Below.refl _ _) _
      have K1 : Blk W1 w.heap.size #[.int .u8 (c.fmt.toNat : Int), .bool c.num, .bool c.skip, .bool c.both, .bool c.loops, .bool c.back, .int .i64 c.bud, .int .i64 c.fan, .int .i64 c.sha] 23 := by rw [← hW1]; exact Blk.new _ _ _
      clear hW1
      refine (right_any c W1).mono ?_
      rintro e w2 ⟨rfl, hb2⟩
      rw [HR.out]
      have HB := Lib.hid (bthen hb1 hb2)
      have K2 := K1.belowW hb2
      clear hb1 hb2 K1
      have q0 := K2.cell.1 0
      have q1 := K2.cell.1 1
      have q2 := K2.cell.1 2
      have q3 := K2.cell.1 3
      have q4 := K2.cell.1 4
      have q5 := K2.cell.1 5
      have q6 := K2.cell.1 6
      have q7 := K2.cell.1 7
      have q8 := K2.cell.1 8
      go_wp2_with fail
      clear q0 q1 q2 q3 q4 q5 q6 q7 q8
      refine (config_any c w2 HC.out (by have := HS.out; omega) (by have := HS.out; omega) (by have := HS.out; omega)).mono ?_
      rintro e w3 ⟨v3, rfl, ho3, hb3⟩
      have HB3 := Lib.hid (bthen HB.out hb3)
      have HO3 := Lib.hid (ho3.lower HB.out.size)
      clear ho3 hb3
      go_wp2_with fail
      have hc1 : (Pl.confB c).length ≤ 100 := by
        have e1 := Pl.putB_len10 (n := c.bud.toNat) (by have := HS.out; omega)
        have e2 := Pl.putB_len10 (n := c.fan.toNat) (by have := HS.out; omega)
        have e3 := Pl.putB_len10 (n := c.sha.toNat) (by have := HS.out; omega)
        unfold Pl.confB
        simp
        omega
      refine (put_int _ (Pl.confB c) _ _ HO3.out.rd (by omega) (by omega) (by omega)).mono ?_
      rintro e w4 ⟨v4, rfl, ho4, hb4⟩
      have HB4 := Lib.hid (bthen HB3.out hb4)
      have HO4 := Lib.hid (ho4.lower HB3.out.size)
      clear ho4 hb4
      go_wp2_with fail
      have hc2 : (Pl.confB c ++ Pl.putB n.toNat).length ≤ 200 := by
        have e1 := Pl.putB_len10 (n := n.toNat) (by omega)
        simp
        omega
      have hfx := fix_any v4 (Pl.confB c ++ Pl.putB n.toNat) s.toNat 4 w4 HO4.out.rd (by omega) (by omega) (by omega) (by omega)
      rw [show ((s.toNat : Nat) : Int) = s by omega] at hfx
      refine hfx.mono ?_
      rintro e w5 ⟨v5, rfl, ho5, hb5⟩
      have HB5 := Lib.hid (bthen HB4.out hb5)
      have HO5 := Lib.hid (ho5.lower HB4.out.size)
      clear ho5 hb5 hfx hc1 hc2
      go_wp2_with fail
      go_ret2
      exact ⟨_, rfl, HO5.out, HB5.out⟩
  · rw [show Pl.note c n s = none by simp [Pl.note, h0]]
    have hd : decide (n < 0) = true := by simp; omega
    clear h0
    go_enter Tryd.func11, Tryd.ntmps11
    go_wp2_with fail
    go_ret2
    exact ⟨_, rfl, Own.nil _ _ _ _, below_alloc (Below.refl _ _) _⟩
end Go.Proofs.YtfppbkpdpapemaaDoor
