import Derived.Test.YtjdcejbblcbjpaaDoorIter
import Derived.Test.YtjdcejbblcbjpaaDoorPlainLine
/-! line.All: its iterator's contract. -/
set_option linter.unusedSimpArgs false
set_option linter.unusedVariables false
namespace Go.Proofs.YtjdcejbblcbjpaaDoor
open Go.RowKit Go.Shelf Go.Proofs.YtjdcejbblcbjpaaDoorW.PrintWords Go.Proofs.YtjdcejbblcbjpaaDoorW.PrintLast Go.Proofs.YtjdcejbblcbjpaaDoorW.PrintMore
attribute [local go_sem] Oper.semAt_some

/-- What a round is handed: its number, and a line. -/
structure LineX where
  i : Nat
  at_ : Int
  bs : List UInt8
  A : Option Addr
  c : Nat
def LineX.line (x : LineX) : Int × List UInt8 := (x.at_, x.bs)
def LineX.val (x : LineX) : Value := .slice x.A x.bs.length x.c
def LineX.encs (x : LineX) : Array Value := #[.int .i64 (x.i : Int), .agg #[.int .i64 x.at_, .slice x.A x.bs.length x.c]]
/-- the lines so far, and one more -/
def LineGood (b : List UInt8) (n0 : Nat) (pre : List LineX) (x : LineX) (W : World) : Prop :=
  x.i = pre.length ∧ (∃ rest, (pre ++ [x]).map LineX.line ++ rest = Pl.lines b) ∧ kb.R 5 W n0 (fun _ => True) (.slice x.A x.bs.length x.c) x.bs

set_option maxRecDepth 100000 in
set_option maxHeartbeats 4000000 in
theorem all1_seq (n : Nat) (hn : 1 ≤ n) (Bn : Nat) (v : Value) (b : List UInt8) (hl : b.length ≤ 1099511627776) (w0 w : World) (hb0 : Below w0.heap.size w0 w) (hB : Bn < w.heap.size) (hcell : w.cell? ⟨Bn, 0, none⟩ = some v) (hv : Rd kb w0 v b) :
    Seq Fence.wide n Tryd.prog 20 #[.pointer (some ⟨Bn, 0, none⟩)] LineX.encs (LineGood b w.heap.size) (fun X Y => Below w0.heap.size X Y ∧ ∀ u, X.cell? ⟨Bn, 0, none⟩ = some u → Y.cell? ⟨Bn, 0, none⟩ = some u) (fun xs => xs.map LineX.line = Pl.lines b) (fun pre => ∃ rest, pre.map LineX.line ++ rest = Pl.lines b) w := by
  obtain ⟨A0, c0, rfl, hc0, hF⟩ := hv
  intro l J Jx W hW hJ hJx hY h0
  refine callsIn_of_wp Tryd.func20 rfl trivial ?_ rfl
  simp only [Tryd.ntmps20, List.size_toArray, List.length_cons, List.length_nil, Nat.reduceAdd, Nat.reduceSub, Array.replicate_succ, Array.replicate_zero, List.push_toArray, List.append_toArray, List.nil_append, List.cons_append]
  have HF := Lib.hid hF
  have hWs := hW.size
  have hcellW : W.cell? ⟨Bn, 0, none⟩ = some (.slice A0 b.length c0) := (hW.cell (p := ⟨Bn, 0, none⟩) hB).trans hcell
  clear hF
  gi_wp2
  gi_loopw [3, 4] (fun at_ i wr => ∃ (k : Nat) (pre : List LineX), at_ = .int .i64 (k : Int) ∧ i = .int .i64 (pre.length : Int) ∧ Aside0 (k ≤ b.length) ∧ Aside0 (pre.length ≤ k) ∧ Aside0 (pre.map LineX.line ++ Pl.linesFrom k (b.drop k) = Pl.lines b) ∧ Aside0 (J pre wr) ∧ Aside0 (Below w0.heap.size w0 wr ∧ W.heap.size ≤ wr.heap.size ∧ wr.cell? ⟨Bn, 0, none⟩ = some (.slice A0 b.length c0))) (fun at_ _ _ => b.length - (intOf at_).toNat)
  case atStart => exact ⟨0, [], rfl, rfl, ⟨by omega⟩, ⟨by simp⟩, ⟨by simp [Pl.lines]⟩, ⟨h0⟩, ⟨bthen hb0 hW, Nat.le_refl _, hcellW⟩⟩
  case round =>
    obtain ⟨k, pre, rfl, rfl, hk, hpk, hpre, HJ, HB⟩ := hrel
    have hcr : wr.cell? ⟨Bn, 0, none⟩ = some (.slice A0 b.length c0) := HB.out.2.2
    by_cases hlt : k < b.length
    · obtain ⟨A3, hfrom, hVf⟩ := byte_from (Kd.F_below HF.out HB.out.1) hc0 k hk.out
      have hfrom' := hfrom .i64 (k : Int) rfl
      have hne : b.drop k ≠ [] := fun h => by have := congrArg List.length h; simp at this; omega
      have HL := Lib.hid (Pl.linesFrom_cons k hne)
      obtain ⟨m, hm⟩ : ∃ m, b.drop k = m := ⟨_, rfl⟩
      have hml : m.length = b.length - k := by rw [← hm]; simp
      rw [hm] at HL hVf
      rw [← hml] at hVf hfrom'
      have HV := Lib.hid (Kd.V_mono hVf (fun _ _ => trivial) : Rd kb wr _ _)
      have HM := Lib.hid hm
      have hk0 : (0 : Int) ≤ (k : Int) := by omega
      have hk1 : (k : Int) ≤ (b.length : Int) := by omega
      have HML := Lib.hid hml
      have hm40 : m.length ≤ 1099511627776 := by omega
      clear hfrom hVf hm hne hml
      gi_wp2
      have hL1 := lit_own wr wr.heap.size [10] [.int .u8 10] rfl (Nat.le_refl _) (by simp)
      have hA1 := below_alloc (Below.refl wr.heap.size wr) (.cells #[.int .u8 10] 5)
      refine ⟨trivial, (callsIn_wide.2 (cut1_any _ _ m 10 _ (Rd.below HV.out hA1) hL1.rd hm40)).mono ?_⟩
      rintro e w3 ⟨va, vb, rfl, hra, hb3⟩
      have hb3 := bthen hA1 hb3
      clear hL1 hA1
      obtain ⟨t, ht⟩ : ∃ t, Pl.cutLen 10 m = t := ⟨_, rfl⟩
      have htl := Pl.cutLen_le 10 m
      rw [ht] at HL hra htl ⊢
      obtain ⟨x, hx⟩ : ∃ x, m.take t = x := ⟨_, rfl⟩
      have hxl : x.length = t := by rw [← hx]; simp; omega
      rw [hx] at HL hra
      obtain ⟨Aa, ca, hva⟩ := Kd.V_slice hra
      subst hva
      have HRA := Lib.hid hra
      have HB3 := Lib.hid hb3
      have HT := Lib.hid ht
      have HXL := Lib.hid hxl
      clear hra hb3 ht hx hxl
      gi_wp2
      have hL2 := lit_own w3 w3.heap.size [13] [.int .u8 13] rfl (Nat.le_refl _) (by simp)
      have hA2 := below_alloc (Below.refl w3.heap.size w3) (.cells #[.int .u8 13] 5)
      refine ⟨trivial, (callsIn_wide.2 (trim1_any _ _ x 13 _ (Rd.below HRA.out hA2) hL2.rd)).mono ?_⟩
      rintro e w4 ⟨vt, rfl, hrt, hw4⟩
      have hb4 := bthen HB3.out hA2
      rw [← hw4] at hb4
      have hty := Pl.trimB_le 13 x
      obtain ⟨y, hy⟩ : ∃ y, Pl.trimB 13 x = y := ⟨_, rfl⟩
      rw [hy] at HL hrt hty
      rw [← hw4] at hrt
      have hyl : y.length ≤ 1099511627776 := by have := HXL.out; omega
      obtain ⟨At, ct, hvt⟩ := Kd.V_slice hrt
      subst hvt
      have HRT := Lib.hid hrt
      have HB4 := Lib.hid hb4
      clear hL2 hA2 hw4 hb4 hrt hy hty
      gi_wp2
      refine ⟨trivial, (callsIn_wide.2 (clone_any _ y _ HRT.out (by omega))).mono ?_⟩
      rintro e w5 ⟨vc, rfl, ho5, hb5⟩
      obtain ⟨Ac, cc, hvc⟩ := Kd.N_slice ho5
      subst hvc
      have hb5' := bthen HB4.out hb5
      have HB5 := Lib.hid hb5'
      have hJ5 : J pre w5 := hJ pre wr w5 none HJ.out ⟨hb5'.os, hb5'.tape, hb5'.output, hb5'.size, fun j hj _ => hb5'.block j hj⟩ (fun r e => by cases e)
      have hgood : LineGood b w.heap.size pre ⟨pre.length, k, y, Ac, cc⟩ w5 := by
        refine ⟨rfl, ⟨Pl.linesFrom (k + t + 1) (m.drop (t + 1)), ?_⟩, ?_⟩
        · have := hpre.out
          rw [HM.out, HL.out] at this
          rw [← this]
          simp [LineX.line]
        · exact Kd.R_mono (Kd.R_lower (own_R ho5) (by have := HB4.out.size; have := HB.out; omega)) (fun _ _ => trivial)
      obtain ⟨fn, tmps, assign, body, hy, hR⟩ := hY pre ⟨pre.length, k, y, Ac, cc⟩ w5 hJ5 hgood
      dsimp only [LineX.encs] at hy
      have HG := Lib.hid hgood
      clear ho5 hb5 hb5' hJ5 hgood
      gi_wp2
      refine hR.mono ?_
      rintro e w6 (⟨rfl, hJ6, hk6⟩ | ⟨rfl, hJx6⟩)
      · have HJ6 := Lib.hid hJ6
        have hc6 := hk6.2 _ ((HB5.out.cell (p := ⟨Bn, 0, none⟩) (World.block_lt_of_cell? _ _ HB.out.2.2)).trans HB.out.2.2)
        have hk6 := hk6.1
        have HB6 := Lib.hid (HB.out.1.trans ((HB5.out.mono HB.out.1.size).trans hk6))
        have hs6 : W.heap.size ≤ w6.heap.size := by have := HB5.out.size; have := hk6.size; have := HB.out.2.1; omega
        have hsum : k + t ≤ b.length := by have := HML.out; omega
        have hprek : pre.length ≤ k := hpk.out
        have HGL := Lib.hid HG.out.2.1
        have hpre2 : (pre ++ [(⟨pre.length, k, y, Ac, cc⟩ : LineX)]).map LineX.line ++ Pl.linesFrom (k + t + 1) (m.drop (t + 1)) = Pl.lines b := by
          have := hpre.out
          rw [HM.out, HL.out] at this
          rw [← this]
          simp [LineX.line]
        have HP2 := Lib.hid hpre2
        have hml := HML.out
        have hxl := HXL.out
        clear hJ6 hk6 hpre2 hY hcr hfrom' hR hy
        rcases Nat.lt_or_ge t m.length with h | h
        · have hd : decide (t < m.length) = true := by simpa using h
          rw [hd]
          have hw1 : IntKind.i64.wrap ((k : Int) + (t : Int)) = (k : Int) + (t : Int) := IntWalk.i64_in _ (by omega)
          have hw2 : IntKind.i64.wrap ((k : Int) + (t : Int) + 1) = (k : Int) + (t : Int) + 1 := IntWalk.i64_in _ (by omega)
          have hw3 : IntKind.i64.wrap ((pre.length : Int) + 1) = (pre.length : Int) + 1 := IntWalk.i64_in _ (by omega)
          have hsum2 : k + t + 1 ≤ b.length := by omega
          clear hd hml
          gi_wp2
          go_roundw
          case rel => exact ⟨k + t + 1, _, by go_num, by simp, ⟨by omega⟩, ⟨by simp; omega⟩, ⟨by have := HP2.out; rw [← HM.out, List.drop_drop] at this; exact this⟩, ⟨HJ6.out⟩, ⟨HB6.out, hs6, hc6⟩⟩
          case measure => simp only [intOf]; omega
        · have hte : t = m.length := by omega
          have hd : decide (t < m.length) = false := by simp; omega
          rw [hd]
          have hw1 : IntKind.i64.wrap ((k : Int) + (t : Int)) = (k : Int) + (t : Int) := IntWalk.i64_in _ (by omega)
          have hw3 : IntKind.i64.wrap ((pre.length : Int) + 1) = (pre.length : Int) + 1 := IntWalk.i64_in _ (by omega)
          have hnil : Pl.linesFrom (k + t + 1) (m.drop (t + 1)) = Pl.linesFrom (k + t) (b.drop (k + t)) := by
            rw [List.drop_of_length_le (by omega), List.drop_of_length_le (by omega), Pl.linesFrom_nil, Pl.linesFrom_nil]
          have HN := Lib.hid hnil
          have htk : k + t ≤ b.length := hsum
          have ht0 : 0 < t := by omega
          clear hd hml hnil hte
          gi_wp2
          go_roundw
          case rel => exact ⟨k + t, _, by go_num, by simp, ⟨htk⟩, ⟨by simp; omega⟩, ⟨by have := HP2.out; rw [HN.out] at this; exact this⟩, ⟨HJ6.out⟩, ⟨HB6.out, hs6, hc6⟩⟩
          case measure => simp only [intOf]; omega
      · gi_wp2
        refine bodyPost_ret (results_none rfl _ _ _) rfl ?_
        exact ⟨⟨_, rfl⟩, .inr ⟨_, HG.out.2.1, hJx6⟩⟩
    · obtain rfl : k = b.length := by have := hk.out; omega
      have hd : decide ((b.length : Int) < (b.length : Int)) = false := by simp
      have hpre2 := hpre.out
      rw [List.drop_of_length_le (Nat.le_refl _), Pl.linesFrom_nil, List.append_nil] at hpre2
      have HP := Lib.hid hpre2
      clear hpre2
      gi_wp2
      go_end0
      exact ⟨⟨_, rfl⟩, .inl ⟨pre, HP.out, HJ.out⟩⟩
end Go.Proofs.YtjdcejbblcbjpaaDoor
