import Derived.Test.YtfppbkpdpapemaaDoorStrKit
import Derived.Test.YtfppbkpdpapemaaDoorRight
import Derived.Test.YtfppbkpdpapemaaDoorNote
/-! sheet.Names. -/
set_option linter.unusedSimpArgs false
set_option linter.unusedVariables false
namespace Go.Proofs.YtfppbkpdpapemaaDoor
open Go.RowKit Go.Proofs.YtfppbkpdpapemaaDoorW.PrintWords Go.Proofs.YtfppbkpdpapemaaDoorW.PrintLast Go.Proofs.YtfppbkpdpapemaaDoorW.PrintMore

/-- the names of a kind of file -/
def Pl.kindN (kd : List UInt8) (n : Nat) : List (List UInt8) := (List.range n).map (fun i => kd ++ Pl.digs i)
theorem Pl.kindN_succ (kd : List UInt8) (n : Nat) : Pl.kindN kd (n + 1) = Pl.kindN kd n ++ [kd ++ Pl.digs n] := by simp [Pl.kindN, List.range_succ]
theorem Pl.kindN_len (kd : List UInt8) (n : Nat) : (Pl.kindN kd n).length = n := by simp [Pl.kindN]
theorem Pl.takeD_ {α : Type} {l : List α} {k : Nat} {x : α} (h : l[k]? = some x) : l.take (k + 1) = l.take k ++ [x] := by
  rw [List.take_add_one, h]; rfl
def Pl.labelsN : List UInt8 := [108, 97, 98, 101, 108, 115]

/-- Between two rounds of Names' inner loop. -/
structure NamesI (w W0 wr : World) (gk : Nat) (v : Value) (pre : List (List UInt8)) : Prop where
  own : Own kStr 9 wr (w.heap.size + 1) v pre
  bel : Below (w.heap.size + 1) W0 wr
  ne : v.ownBlock ≠ some gk
  row : wr.heap[gk]? = W0.heap[gk]?
theorem NamesI.step {w W0 wr w1 : World} {gk : Nat} {v v1 : Value} {pre pre1 : List (List UInt8)} (h : NamesI w W0 wr gk v pre) (hk : gk < W0.heap.size) (ho : Own kStr 9 w1 (w.heap.size + 1) v1 pre1) (hb : Below (w.heap.size + 1) W0 w1) (hg : wr.grownBy w1 v.ownBlock) (hat : v1.ownBlock = v.ownBlock ∨ ∃ b, v1.ownBlock = some b ∧ wr.heap.size ≤ b) : NamesI w W0 w1 gk v1 pre1 := by
  have hs := h.bel.size
  refine ⟨ho, hb, fun he => ?_, (hg.block gk (by omega) (fun he => h.ne he.symm)).trans h.row⟩
  rcases hat with h1 | ⟨b, h1, h2⟩
  · exact h.ne (h1.symm.trans he)
  · rw [h1] at he
    injection he with he
    omega
theorem NamesI.cell {w W0 wr : World} {gk : Nat} {v : Value} {pre : List (List UInt8)} (h : NamesI w W0 wr gk v pre) (i : Nat) : wr.cell? ⟨gk, i, none⟩ = W0.cell? ⟨gk, i, none⟩ := World.cell?_of_block h.row

set_option maxRecDepth 100000 in
set_option maxHeartbeats 2000000 in
theorem names_one (c : Pl.Cfg) (w : World) (hr : Pl.right c = true) (hbk : c.back = false) : Calls Tryd.prog 10 #[cfgV c] w fun e w' => ∃ v', e = .returned v' ∧ Own kStr 9 w' w.heap.size v' (Pl.names c) ∧ Below w.heap.size w w' := by
  have hbd := Pl.right_bounds hr
  obtain ⟨n, hn⟩ : ∃ n : Nat, c.sha = (n : Int) := ⟨c.sha.toNat, by omega⟩
  have hnm : Pl.names c = [Pl.labelsN] ++ Pl.kindN [115, 46] n := by
    rw [Pl.names_right hr]
    simp [Pl.namesOf, hbk, hn, Pl.kindN, Pl.labelsN]
  rw [hnm]
  have hn16 : n ≤ 16 := by omega
  have HR := Lib.hid hr
  have HSN := Lib.hid hn
  have HBB := Lib.hid hbk
  clear hr hnm hbd hn hbk
  go_enter Tryd.func10, Tryd.ntmps10
  go_wp2_with fail
  refine calls_at fun W1 hW1 => ?_
  have hb1 : Below w.heap.size w W1 := by rw [← hW1]; exact below_alloc (Below.refl _ _) _
  have hs1 : w.heap.size + 1 ≤ W1.heap.size := by rw [← hW1]; simp
  have K1 : Blk W1 w.heap.size #[.int .u8 (c.fmt.toNat : Int), .bool c.num, .bool c.skip, .bool c.both, .bool c.loops, .bool c.back, .int .i64 c.bud, .int .i64 c.fan, .int .i64 c.sha] 23 := by rw [← hW1]; exact Blk.new _ _ _
  clear hW1
  refine (right_any c W1).mono ?_
  rintro e w2 ⟨rfl, hb2⟩
  rw [HR.out]
  have K2 := K1.belowW hb2
  have hb12 := bthen hb1 hb2
  have hs2 : w.heap.size + 1 ≤ w2.heap.size := by have := hb2.size; omega
  have k5 := ((K2.alloc (.cells #[.string ⟨#[108, 97, 98, 101, 108, 115]⟩] 9)).alloc (.cells #[.string ⟨#[115, 46]⟩] 9)).cell.1 5
  rw [show (#[Value.int .u8 (c.fmt.toNat : Int), .bool c.num, .bool c.skip, .bool c.both, .bool c.loops, .bool c.back, .int .i64 c.bud, .int .i64 c.fan, .int .i64 c.sha])[5]? = some (Value.bool c.back) from rfl, HBB.out] at k5
  clear hb1 hb2 K1 HR
  go_wp2_with fail
  refine wp_at fun W3 hW3 => ?_
  have HOO := ((lit_ownS w2 (w.heap.size + 1) [Pl.labelsN] [strV Pl.labelsN] rfl hs2 (by simp)).alloc (.cells #[.string ⟨#[115, 46]⟩] 9))
  have HOK := lit_ownS (w2.alloc (.cells #[.string ⟨#[108, 97, 98, 101, 108, 115]⟩] 9)) w.heap.size [[115, 46]] [strV [115, 46]] rfl (by have := hb12.size; simp; omega) (by simp)
  simp only [World.size_alloc] at HOK
  rw [show ((w2.alloc (.cells [strV Pl.labelsN].toArray 9)).alloc (.cells #[.string ⟨#[115, 46]⟩] 9)) = W3 from hW3] at HOO
  rw [show ((w2.alloc (.cells #[.string ⟨#[108, 97, 98, 101, 108, 115]⟩] 9)).alloc (.cells [strV [115, 46]].toArray 9)) = W3 from hW3] at HOK
  have K3 : Blk W3 w.heap.size #[.int .u8 (c.fmt.toNat : Int), .bool c.num, .bool c.skip, .bool c.both, .bool c.loops, .bool c.back, .int .i64 c.bud, .int .i64 c.fan, .int .i64 c.sha] 23 := by rw [← hW3]; exact (K2.alloc _).alloc _
  have hb3 : Below w.heap.size w W3 := by rw [← hW3]; exact (hb12.alloc hb12.size _).alloc (by have := hb12.size; simp; omega) _
  obtain ⟨gk, ck, hvk, hgk0, hgk, hcell⟩ := strS_form HOK (by simp)
  simp only [Value.slice.injEq, Option.some.injEq, Addr.mk.injEq, and_true, true_and, List.length_cons, List.length_nil] at hvk
  obtain ⟨e1, e2⟩ := hvk
  subst e2
  have hne : (Value.slice (some ⟨w2.heap.size, 0, none⟩) 1 1).ownBlock ≠ some gk := by
    intro he
    have h1 : w2.heap.size = gk := by simpa [Value.ownBlock] using he
    omega
  have hI : NamesI w W3 W3 gk (.slice (some ⟨w2.heap.size, 0, none⟩) 1 1) [Pl.labelsN] := ⟨HOO, Below.refl _ _, hne, rfl⟩
  rw [e1]
  clear e1 HOO HOK hW3
  have HI := Lib.hid hI
  have HC := Lib.hid hcell
  have HCS := Lib.hid (K3.cell.1 8)
  clear hI hcell K2 k5 hne hb12
  have hn0 : (0 : Int) ≤ (n : Int) := by omega
  have hgkB : gk < W3.heap.size := hgk
  go_loopw [3, 20] (fun v i wr => ∃ (k : Nat) (pre : List (List UInt8)), i = .int .i64 (k : Int) ∧ Aside0 (k ≤ 1) ∧ Aside0 (pre = [Pl.labelsN] ++ (([[115, 46]] : List (List UInt8)).take k).flatMap (fun kd => Pl.kindN kd n)) ∧ Aside0 (NamesI w W3 wr gk v pre)) (fun _ i _ => 1 - (intOf i).toNat)
  case atStart => exact ⟨0, _, rfl, ⟨by omega⟩, ⟨by simp⟩, ⟨HI.out⟩⟩
  case round =>
    obtain ⟨k, pre, rfl, hk, hpre, HN⟩ := hrel
    by_cases hlt : k < 1
    · obtain ⟨kd, hkd⟩ : ∃ kd, (([[115, 46]] : List (List UInt8)))[k]? = some kd := ⟨_, List.getElem?_eq_getElem (by simpa using hlt)⟩
      have hck := (HN.out.cell k).trans (HC.out k kd hkd)
      have hsh : wr.cell? ⟨w.heap.size, 8, none⟩ = some (.int .i64 (n : Int)) := by
        rw [HN.out.bel.cell (p := ⟨w.heap.size, 8, none⟩) (by simp)]
        rw [HCS.out]
        show some (Value.int .i64 c.sha) = _
        rw [HSN.out]
      have HKD := Lib.hid hkd
      have HSH := Lib.hid hsh
      have hplen : pre.length ≤ 100 := by
        rw [hpre.out]
        have : ∀ (l : List (List UInt8)), (l.flatMap (fun kd => Pl.kindN kd n)).length = l.length * n := by
          intro l
          induction l with
          | nil => simp
          | cons a l ih => simp [ih, Pl.kindN_len, Nat.add_mul, Nat.add_comm]
        rw [List.length_append, this, List.length_take]
        have hmul : min k (([[115, 46]] : List (List UInt8))).length * n ≤ 1 * 16 := Nat.mul_le_mul (by simp; omega) hn16
        simp at hmul ⊢
        omega
      clear hkd
      have hdk : decide ((k : Int) < 1) = true := by simp; omega
      go_wp2_with fail
      obtain ⟨wo, hwo⟩ : ∃ wo : World, wo = wr := ⟨_, rfl⟩
      obtain ⟨po, hpo⟩ : ∃ po : List (List UInt8), po = pre := ⟨_, rfl⟩
      rw [← hwo] at HN ⊢
      rw [← hpo] at HN hplen
      clear hck hsh HSH hwo
      go_loopw [3, 26] (fun v i wr => ∃ (j : Nat), i = .int .i64 (j : Int) ∧ Aside0 (j ≤ n) ∧ Aside0 (NamesI w W3 wr gk v (po ++ Pl.kindN kd j))) (fun _ i _ => n - (intOf i).toNat)
      case atStart => exact ⟨0, rfl, ⟨by omega⟩, ⟨by simpa [Pl.kindN] using HN.out⟩⟩
      case round =>
        obtain ⟨j, rfl, hj, HJ⟩ := hrel
        by_cases hjn : j < n
        · have hsb := HJ.out.bel.size
          have hw1 : IntKind.i64.wrap ((j : Int) + 1) = (j : Int) + 1 := IntWalk.i64_in _ (by omega)
          have hjl : (po ++ Pl.kindN kd j).length ≤ 1000 := by rw [List.length_append, Pl.kindN_len]; omega
          have hkl : kd.length ≤ 2 := by
            have hm := List.mem_of_getElem? HKD.out
            simp at hm
            rw [hm]; simp
          have hdl : (Pl.digs j).length ≤ 2 := by unfold Pl.digs; split <;> simp
          have hsz := HJ.out.bel.size
          go_wp2_with (first | (go_at_call 22; refine (Tryd.strconv_Itoa_small j (by omega) _).mono ?_; rintro e w6 ⟨rfl, rfl⟩; rw [digs_lib (by omega)]) | ((with_reducible refine gate_builtin (b := .append) (xs := #[.tmp 29, .tmp 34]) rfl ?_); at_builtin; refine appS (w0 := W3) (w.heap.size + 1) rfl (.tmp 29) (.tmp 34) rfl _ (po ++ Pl.kindN kd j) (kd ++ Pl.digs j) _ ?hu rfl rfl HJ.out.own HJ.out.bel (by omega) (by omega) ?_; (case hu => rw [str_app]); intro v5 w5 ho5 hb5 hg5 hat5; rw [List.append_assoc, ← Pl.kindN_succ] at ho5; have HJ5 := Lib.hid (HJ.out.step hgkB ho5 hb5 hg5 hat5); clear ho5 hb5 hg5 hat5))
          go_roundw
          case rel => exact ⟨j + 1, by go_num, ⟨by omega⟩, ⟨HJ5.out⟩⟩
          case measure => simp [intOf]; omega
        · obtain rfl : j = n := by have := hj.out; omega
          have hpre2 : po ++ Pl.kindN kd j = [Pl.labelsN] ++ (([[115, 46]] : List (List UInt8)).take (k + 1)).flatMap (fun kd => Pl.kindN kd j) := by
            rw [hpo, hpre.out, Pl.takeD_ HKD.out]
            simp
          have HP2 := Lib.hid hpre2
          have hw1 : IntKind.i64.wrap ((k : Int) + 1) = (k : Int) + 1 := IntWalk.i64_in _ (by omega)
          clear hpre2
          go_wp2_with fail
          go_roundw
          case rel => exact ⟨k + 1, _, by go_num, ⟨by omega⟩, ⟨HP2.out⟩, ⟨HJ.out⟩⟩
          case measure => simp [intOf]; omega
    · obtain rfl : k = 1 := by have := hk.out; omega
      go_wp2_with fail
      go_ret
      refine ⟨_, rfl, ?_, ?_⟩
      · have hown := HN.out.own.lower (b := w.heap.size) (by omega)
        rw [hpre.out] at hown
        simpa using hown
      · exact hb3.trans (HN.out.bel.mono (by omega))

set_option maxRecDepth 100000 in
set_option maxHeartbeats 2000000 in
theorem names_back (c : Pl.Cfg) (w : World) (hr : Pl.right c = true) (hbk : c.back = true) : Calls Tryd.prog 10 #[cfgV c] w fun e w' => ∃ v', e = .returned v' ∧ Own kStr 9 w' w.heap.size v' (Pl.names c) ∧ Below w.heap.size w w' := by
  have hbd := Pl.right_bounds hr
  obtain ⟨n, hn⟩ : ∃ n : Nat, c.sha = (n : Int) := ⟨c.sha.toNat, by omega⟩
  have hnm : Pl.names c = [Pl.labelsN] ++ (Pl.kindN [115, 46] n ++ Pl.kindN [116, 46] n) := by
    rw [Pl.names_right hr]
    simp [Pl.namesOf, hbk, hn, Pl.kindN, Pl.labelsN]
  rw [hnm]
  have hn16 : n ≤ 16 := by omega
  have HR := Lib.hid hr
  have HSN := Lib.hid hn
  have HBB := Lib.hid hbk
  clear hr hnm hbd hn hbk
  go_enter Tryd.func10, Tryd.ntmps10
  go_wp2_with fail
  refine calls_at fun W1 hW1 => ?_
  have hb1 : Below w.heap.size w W1 := by rw [← hW1]; exact below_alloc (Below.refl _ _) _
  have hs1 : w.heap.size + 1 ≤ W1.heap.size := by rw [← hW1]; simp
  have K1 : Blk W1 w.heap.size #[.int .u8 (c.fmt.toNat : Int), .bool c.num, .bool c.skip, .bool c.both, .bool c.loops, .bool c.back, .int .i64 c.bud, .int .i64 c.fan, .int .i64 c.sha] 23 := by rw [← hW1]; exact Blk.new _ _ _
  clear hW1
  refine (right_any c W1).mono ?_
  rintro e w2 ⟨rfl, hb2⟩
  rw [HR.out]
  have K2 := K1.belowW hb2
  have hb12 := bthen hb1 hb2
  have hs2 : w.heap.size + 1 ≤ w2.heap.size := by have := hb2.size; omega
  have HOO := ((lit_ownS w2 (w.heap.size + 1) [Pl.labelsN] [strV Pl.labelsN] rfl hs2 (by simp)).alloc (.cells #[.string ⟨#[115, 46]⟩] 9))
  have HOK := lit_ownS (w2.alloc (.cells #[.string ⟨#[108, 97, 98, 101, 108, 115]⟩] 9)) (w.heap.size + 1) [[115, 46]] [strV [115, 46]] rfl (by simp; omega) (by simp)
  simp only [World.size_alloc] at HOK
  have KC := (K2.alloc (.cells #[.string ⟨#[108, 97, 98, 101, 108, 115]⟩] 9)).alloc (.cells #[.string ⟨#[115, 46]⟩] 9)
  have BC : Below w.heap.size w ((w2.alloc (.cells #[.string ⟨#[108, 97, 98, 101, 108, 115]⟩] 9)).alloc (.cells #[.string ⟨#[115, 46]⟩] 9)) := (hb12.alloc hb12.size _).alloc (by have := hb12.size; simp; omega) _
  have hsz : w.heap.size + 1 ≤ ((w2.alloc (.cells #[.string ⟨#[108, 97, 98, 101, 108, 115]⟩] 9)).alloc (.cells #[.string ⟨#[115, 46]⟩] 9)).heap.size := by simp; omega
  have k5 := ((K2.alloc (.cells #[.string ⟨#[108, 97, 98, 101, 108, 115]⟩] 9)).alloc (.cells #[.string ⟨#[115, 46]⟩] 9)).cell.1 5
  rw [show (#[Value.int .u8 (c.fmt.toNat : Int), .bool c.num, .bool c.skip, .bool c.both, .bool c.loops, .bool c.back, .int .i64 c.bud, .int .i64 c.fan, .int .i64 c.sha])[5]? = some (Value.bool c.back) from rfl, HBB.out] at k5
  clear hb1 hb2 K1 HR
  go_wp2_with ((with_reducible refine gate_builtin (b := .append) (xs := #[.tmp 15, .tmp 16]) rfl ?_); at_builtin; refine appS (w0 := _) (w.heap.size + 1) rfl (.tmp 15) (.tmp 16) rfl _ [[115, 46]] [116, 46] _ rfl rfl (by show Value.slice (some ⟨w2.heap.size + 1 + 1, 0, none⟩) 1 1 = _; simp) HOK (Below.refl _ _) hsz (by simp) ?_; intro v5 w5 ho5 hb5 hg5 hat5; obtain ⟨gk, ck, hvk, hgk0, hgk, hcell⟩ := strS_form ho5 (by simp); have hvk' : v5 = .slice (some ⟨gk, 0, none⟩) 2 ck := hvk; clear hvk; subst hvk'; have HCE := Lib.hid hcell; clear hcell; have HO5 := Lib.hid ho5; have HB5 := Lib.hid hb5; have HG5 := Lib.hid hg5; have HA5 := Lib.hid hat5; clear ho5 hb5 hg5 hat5)
  have hb3 : Below w.heap.size w w5 := BC.trans (HB5.out.mono (by omega))
  have K3 := KC.below HB5.out (by omega)
  have HO3 := Lib.hid (ownS_grown HOO HG5.out (by show (some (w2.heap.size + 1) : Option Nat) ≠ some w2.heap.size; simp))
  clear HOO HOK KC BC HB5 K2
  have hcell := HCE.out
  have hne : (Value.slice (some ⟨w2.heap.size, 0, none⟩) 1 1).ownBlock ≠ some gk := by
    rcases HA5.out with h1 | ⟨b, h1, h2⟩
    · replace h1 : some gk = some (w2.heap.size + 1) := h1
      simp [Value.ownBlock] at h1 ⊢
      omega
    · simp [Value.ownBlock] at h1 h2 ⊢
      omega
  clear HG5 HA5 HO5 HCE
  obtain ⟨W3, hW3⟩ : ∃ W3, w5 = W3 := ⟨_, rfl⟩
  rw [hW3] at K3 hb3 HO3 hgk hcell ⊢
  clear hW3
  have hI : NamesI w W3 W3 gk (.slice (some ⟨w2.heap.size, 0, none⟩) 1 1) [Pl.labelsN] := ⟨HO3.out, Below.refl _ _, hne, rfl⟩
  have HI := Lib.hid hI
  have HC := Lib.hid hcell
  have HCS := Lib.hid (K3.cell.1 8)
  clear hI hcell hne HO3 k5 hsz hb12
  have hn0 : (0 : Int) ≤ (n : Int) := by omega
  have hgkB : gk < W3.heap.size := hgk
  go_loopw [3, 20] (fun v i wr => ∃ (k : Nat) (pre : List (List UInt8)), i = .int .i64 (k : Int) ∧ Aside0 (k ≤ 2) ∧ Aside0 (pre = [Pl.labelsN] ++ (([[115, 46], [116, 46]] : List (List UInt8)).take k).flatMap (fun kd => Pl.kindN kd n)) ∧ Aside0 (NamesI w W3 wr gk v pre)) (fun _ i _ => 2 - (intOf i).toNat)
  case atStart => exact ⟨0, _, rfl, ⟨by omega⟩, ⟨by simp⟩, ⟨HI.out⟩⟩
  case round =>
    obtain ⟨k, pre, rfl, hk, hpre, HN⟩ := hrel
    by_cases hlt : k < 2
    · obtain ⟨kd, hkd⟩ : ∃ kd, (([[115, 46], [116, 46]] : List (List UInt8)))[k]? = some kd := ⟨_, List.getElem?_eq_getElem (by simpa using hlt)⟩
      have hck := (HN.out.cell k).trans (HC.out k kd hkd)
      have hsh : wr.cell? ⟨w.heap.size, 8, none⟩ = some (.int .i64 (n : Int)) := by
        rw [HN.out.bel.cell (p := ⟨w.heap.size, 8, none⟩) (by simp)]
        rw [HCS.out]
        show some (Value.int .i64 c.sha) = _
        rw [HSN.out]
      have HKD := Lib.hid hkd
      have HSH := Lib.hid hsh
      have hplen : pre.length ≤ 100 := by
        rw [hpre.out]
        have : ∀ (l : List (List UInt8)), (l.flatMap (fun kd => Pl.kindN kd n)).length = l.length * n := by
          intro l
          induction l with
          | nil => simp
          | cons a l ih => simp [ih, Pl.kindN_len, Nat.add_mul, Nat.add_comm]
        rw [List.length_append, this, List.length_take]
        have hmul : min k (([[115, 46], [116, 46]] : List (List UInt8))).length * n ≤ 2 * 16 := Nat.mul_le_mul (by simp; omega) hn16
        simp at hmul ⊢
        omega
      clear hkd
      have hdk : decide ((k : Int) < 2) = true := by simp; omega
      go_wp2_with fail
      obtain ⟨wo, hwo⟩ : ∃ wo : World, wo = wr := ⟨_, rfl⟩
      obtain ⟨po, hpo⟩ : ∃ po : List (List UInt8), po = pre := ⟨_, rfl⟩
      rw [← hwo] at HN ⊢
      rw [← hpo] at HN hplen
      clear hck hsh HSH hwo
      go_loopw [3, 26] (fun v i wr => ∃ (j : Nat), i = .int .i64 (j : Int) ∧ Aside0 (j ≤ n) ∧ Aside0 (NamesI w W3 wr gk v (po ++ Pl.kindN kd j))) (fun _ i _ => n - (intOf i).toNat)
      case atStart => exact ⟨0, rfl, ⟨by omega⟩, ⟨by simpa [Pl.kindN] using HN.out⟩⟩
      case round =>
        obtain ⟨j, rfl, hj, HJ⟩ := hrel
        by_cases hjn : j < n
        · have hsb := HJ.out.bel.size
          have hw1 : IntKind.i64.wrap ((j : Int) + 1) = (j : Int) + 1 := IntWalk.i64_in _ (by omega)
          have hjl : (po ++ Pl.kindN kd j).length ≤ 1000 := by rw [List.length_append, Pl.kindN_len]; omega
          have hkl : kd.length ≤ 2 := by
            have hm := List.mem_of_getElem? HKD.out
            simp at hm
            rcases hm with hm | hm <;> rw [hm] <;> simp
          have hdl : (Pl.digs j).length ≤ 2 := by unfold Pl.digs; split <;> simp
          have hsz := HJ.out.bel.size
          go_wp2_with (first | (go_at_call 22; refine (Tryd.strconv_Itoa_small j (by omega) _).mono ?_; rintro e w6 ⟨rfl, rfl⟩; rw [digs_lib (by omega)]) | ((with_reducible refine gate_builtin (b := .append) (xs := #[.tmp 29, .tmp 34]) rfl ?_); at_builtin; refine appS (w0 := W3) (w.heap.size + 1) rfl (.tmp 29) (.tmp 34) rfl _ (po ++ Pl.kindN kd j) (kd ++ Pl.digs j) _ ?hu rfl rfl HJ.out.own HJ.out.bel (by omega) (by omega) ?_; (case hu => rw [str_app]); intro v5 w5 ho5 hb5 hg5 hat5; rw [List.append_assoc, ← Pl.kindN_succ] at ho5; have HJ5 := Lib.hid (HJ.out.step hgkB ho5 hb5 hg5 hat5); clear ho5 hb5 hg5 hat5))
          go_roundw
          case rel => exact ⟨j + 1, by go_num, ⟨by omega⟩, ⟨HJ5.out⟩⟩
          case measure => simp [intOf]; omega
        · obtain rfl : j = n := by have := hj.out; omega
          have hpre2 : po ++ Pl.kindN kd j = [Pl.labelsN] ++ (([[115, 46], [116, 46]] : List (List UInt8)).take (k + 1)).flatMap (fun kd => Pl.kindN kd j) := by
            rw [hpo, hpre.out, Pl.takeD_ HKD.out]
            simp
          have HP2 := Lib.hid hpre2
          have hw1 : IntKind.i64.wrap ((k : Int) + 1) = (k : Int) + 1 := IntWalk.i64_in _ (by omega)
          clear hpre2
          go_wp2_with fail
          go_roundw
          case rel => exact ⟨k + 1, _, by go_num, ⟨by omega⟩, ⟨HP2.out⟩, ⟨HJ.out⟩⟩
          case measure => simp [intOf]; omega
    · obtain rfl : k = 2 := by have := hk.out; omega
      go_wp2_with fail
      go_ret
      refine ⟨_, rfl, ?_, ?_⟩
      · have hown := HN.out.own.lower (b := w.heap.size) (by omega)
        rw [hpre.out] at hown
        simpa using hown
      · exact hb3.trans (HN.out.bel.mono (by omega))

theorem names_any (c : Pl.Cfg) (w : World) : Calls Tryd.prog 10 #[cfgV c] w fun e w' => ∃ v', e = .returned v' ∧ Own kStr 9 w' w.heap.size v' (Pl.names c) ∧ Below w.heap.size w w' := by
  rcases hr : Pl.right c with _ | _
  · rw [Pl.names_wrong hr]
    have HR := Lib.hid hr
    clear hr
    go_enter Tryd.func10, Tryd.ntmps10
    go_wp2_with fail
    refine calls_at fun W1 hW1 => ?_
    have hb1 : Below w.heap.size w W1 := by rw [← hW1]; exact below_alloc (Below.refl _ _) _
    clear hW1
    refine (right_any c W1).mono ?_
    rintro e w2 ⟨rfl, hb2⟩
    rw [HR.out]
    have HB := Lib.hid (bthen hb1 hb2)
    clear hb1 hb2
    go_wp2_with fail
    go_ret
    exact ⟨_, rfl, Own.nil _ _ _ _, HB.out⟩
  · rcases hb : c.back with _ | _
    · exact names_one c w hr hb
    · exact names_back c w hr hb
end Go.Proofs.YtfppbkpdpapemaaDoor
