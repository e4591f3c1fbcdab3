import Derived.Test.YtchbfeejpdfmhaaPlainFeed
/-! bytes.CutPrefix; slices.Chunk: its iterator's contract. -/
set_option linter.unusedSimpArgs false
set_option linter.unusedVariables false
namespace Go.Proofs.Ytchbfeejpdfmhaa
open Go.RowKit Go.Shelf Go.Proofs.YtchbfeejpdfmhaaW.PrintWords Go.Proofs.YtchbfeejpdfmhaaW.PrintLast Go.Proofs.YtchbfeejpdfmhaaW.PrintMore
attribute [local go_sem] Oper.semAt_some max2_int min2_int max_two min_two

theorem hasPrefix_any (v u : Value) (l p : List UInt8) (w : World) (hv : Rd kb w v l) (hu : Rd kb w u p) :
    Calls Try.prog 56 #[v, u] w fun e w' => e = .returned (.bool (decide (l.take p.length = p))) ∧ w' = w := by
  have HU := Lib.hid hu
  obtain ⟨A, c, rfl, hc, hF⟩ := hv
  obtain ⟨A2, c2, rfl, hc2, hF2⟩ := hu
  by_cases h : p.length ≤ l.length
  · obtain ⟨hto, hVt⟩ := byte_to hF hc p.length h
    have hto' := hto .i64 (p.length : Int) rfl
    have he := equal_any _ _ _ p w (Kd.V_mono hVt (fun _ _ => trivial)) HU.out
    obtain ⟨q, hq⟩ : ∃ q, decide (l.take p.length = p) = q := ⟨_, rfl⟩
    rw [hq] at he ⊢
    have hd1 : decide (p.length ≤ l.length) = true := decide_eq_true h
    have hlp : (p.length : Int) ≤ (l.length : Int) := by omega
    clear hq hto hVt hF hF2
    go_enter Try.func56, Try.ntmps56
    go_wp2_with fail
    refine he.mono ?_
    rintro e w1 ⟨rfl, rfl⟩
    go_wp2_with fail
    go_ret
    exact ⟨rfl, rfl⟩
  · have hd1 : decide (p.length ≤ l.length) = false := decide_eq_false h
    have hd2 : decide (l.take p.length = p) = false := decide_eq_false (fun e => by have := congrArg List.length e; simp at this; omega)
    rw [hd2]
    have hlp : ¬ (p.length : Int) ≤ (l.length : Int) := by omega
    clear hF hF2 h
    go_enter Try.func56, Try.ntmps56
    go_wp2_with fail
    go_ret
    exact ⟨rfl, rfl⟩

theorem cutPrefix_any (v u : Value) (l p : List UInt8) (w0 w : World) (hv0 : Rd kb w0 v l) (hv : Rd kb w v l) (hu : Rd kb w u p) :
    Calls Try.prog 49 #[v, u] w fun e w' => ∃ va, e = .returned (.tuple #[va, .bool (decide (l.take p.length = p))]) ∧ Rd kb w0 va (if l.take p.length = p then l.drop p.length else l) ∧ w' = w := by
  have HR := Lib.hid hv0
  have hh := hasPrefix_any v u l p w hv hu
  obtain ⟨A, c, rfl, hc, hF⟩ := hv0
  clear hv
  obtain ⟨A2, c2, rfl, hc2, hF2⟩ := hu
  by_cases h : l.take p.length = p
  · rw [if_pos h]
    rw [decide_eq_true h] at hh ⊢
    have hle : p.length ≤ l.length := by have := congrArg List.length h; simp at this; omega
    obtain ⟨A3, hfrom, hVf⟩ := byte_from hF hc p.length hle
    have hfrom' := hfrom .i64 (p.length : Int) rfl
    have HV := Lib.hid (Kd.V_mono hVf (fun _ _ => trivial) : Rd kb w0 _ _)
    have hlp : (p.length : Int) ≤ (l.length : Int) := by omega
    clear hfrom hVf hF hF2 h
    go_enter Try.func49, Try.ntmps49
    go_wp2_with fail
    refine hh.mono ?_
    rintro e w1 ⟨rfl, rfl⟩
    go_wp2_with fail
    go_ret2
    exact ⟨_, rfl, HV.out, rfl⟩
  · rw [if_neg h]
    rw [decide_eq_false h] at hh ⊢
    clear hF hF2 h
    go_enter Try.func49, Try.ntmps49
    go_wp2_with fail
    refine hh.mono ?_
    rintro e w1 ⟨rfl, rfl⟩
    go_wp2_with fail
    go_ret2
    exact ⟨_, rfl, HR.out, rfl⟩

namespace Pl
/-- bytes by eights -/
def chunks (b : List UInt8) : List (List UInt8) := if _h : b = [] then [] else b.take 8 :: chunks (b.drop 8)
termination_by b.length
decreasing_by
  have := List.length_pos_iff.2 _h
  simp; omega
theorem chunks_nil : chunks [] = [] := by rw [chunks]; simp
theorem chunks_cons {b : List UInt8} (h : b ≠ []) : chunks b = b.take 8 :: chunks (b.drop 8) := by rw [chunks, dif_neg h]
end Pl
/-- x[lo:hi:hi] of bytes. -/
theorem byte_cut3 {w : World} {A : Option Addr} {c : Nat} {xs : List UInt8} {ok : Nat → Prop} (h : Kd.F kb w ok A xs.length xs) (hc : xs.length ≤ c) (lo hi : Nat) (h1 : lo < hi) (h2 : hi ≤ xs.length) :
    ∃ A2, (∀ (kl kh km : IntKind) (l' h' m' : Int), l' = (lo : Int) → h' = (hi : Int) → m' = (hi : Int) → ∀ W : World, (Instr.slice 22 (.slice A xs.length c) (some (.int kl l')) (some (.int kh h')) (some (.int km m'))).run Try.prog W = .ok (.slice A2 (hi - lo) (hi - lo)) W) ∧ Kd.V kb 0 w 0 ok (.slice A2 (hi - lo) (hi - lo)) ((xs.take hi).drop lo) := by
  have hF := Kd.F_mid (lo := lo) (hi := hi) h (by omega) h2 hc
  obtain ⟨i0, hi0, hzz⟩ := Option.map_eq_some_iff.1 infoByte
  simp only [Prod.mk.injEq] at hzz
  have hl : ((xs.take hi).drop lo).length = hi - lo := by simp; omega
  rw [if_neg (by omega)] at hF
  refine ⟨A.map (·.add (lo * kb.sz)), fun kl kh km l' h' m' e1 e2 e3 W => ?_, ?_⟩
  · subst e1 e2 e3
    have hel : Try.prog.elem 22 = 5 := by simp [Program.elem, Try.underlying22]
    have hu : Try.prog.underlying 22 = some (.slice (Try.prog.elem 22)) := by rw [hel]; exact Try.underlying22
    rw [run_slice_lhm W 22 A xs.length c hu kl kh km (lo : Int) (hi : Int) (hi : Int) (by omega) (by omega) (by omega) (by omega), hel]
    simp [sizeOf, typeInfo, hi0, hzz.2.1, sliced, Result.andThen, kb, Kd.scalar]
    omega
  · rw [← hl]
    exact ⟨_, _, rfl, Nat.le_refl _, hF⟩
/-- Eight bytes that are handed over. -/
structure ChunkX where
  bs : List UInt8
  A : Option Addr
  c : Nat
def ChunkX.encs (x : ChunkX) : Array Value := #[.slice x.A x.bs.length x.c]
def ChunkGood (w0 : World) (L : List (List UInt8)) (pre : List ChunkX) (x : ChunkX) (_ : World) : Prop := (∃ rest, (pre ++ [x]).map ChunkX.bs ++ rest = L) ∧ Rd kb w0 (.slice x.A x.bs.length x.c) x.bs
def NoHand {α : Type} (_ : α) (_ : Nat) : Prop := False

theorem chunk_any (v : Value) (b : List UInt8) (w : World) (hv : Rd kb w v b) :
    Calls Try.prog 50 #[v, .int .i64 8] w fun e w' => e = .returned (.func (.func 57) #[] #[.pointer (some ⟨w.heap.size, 0, none⟩), .pointer (some ⟨w.heap.size + 1, 0, none⟩)]) ∧ w' = (w.alloc (.cells #[v] 22)).alloc (.cells #[.int .i64 8] 3) := by
  obtain ⟨A, c, rfl⟩ := Kd.V_slice hv
  clear hv
  go_enter Try.func50, Try.ntmps50
  go_wp2_with fail
  go_ret
  exact ⟨rfl, rfl⟩

set_option maxRecDepth 100000 in
set_option maxHeartbeats 4000000 in
theorem chunk1_seq2 (Bs Bn : Nat) (v : Value) (b : List UInt8) (hl : b.length ≤ 1099511627776) (w0 w : World) (hb0 : Below w0.heap.size w0 w) (Cap : Nat → Prop) (hC0 : ∀ k, k < w0.heap.size → Cap k) (hCw : ∀ k, Cap k → k < w.heap.size) (hCs : Cap Bs) (hCn : Cap Bn)
    (hcell : w.cell? ⟨Bs, 0, none⟩ = some v) (hcn : w.cell? ⟨Bn, 0, none⟩ = some (.int .i64 8)) (hv : Rd kb w0 v b) :
    Seq2 Try.prog 57 #[.pointer (some ⟨Bs, 0, none⟩), .pointer (some ⟨Bn, 0, none⟩)] ChunkX.encs (ChunkGood w0 (Pl.chunks b)) NoHand Cap (fun xs => xs.map ChunkX.bs = Pl.chunks b) (fun pre => ∃ rest, pre.map ChunkX.bs ++ rest = Pl.chunks b) w := by
  obtain ⟨A0, c0, rfl, hc0, hF⟩ := hv
  intro l J Jx W G0 hW hG0 hJ hJx hY h0
  refine callsIn_of_wp Try.func57 rfl trivial ?_ rfl
  simp only [Try.ntmps57, List.size_toArray, List.length_cons, List.length_nil, Nat.reduceAdd, Nat.reduceSub, Array.replicate_succ, Array.replicate_zero, List.push_toArray, List.append_toArray, List.nil_append, List.cons_append]
  have HF := Lib.hid hF
  have hWs := hW.size
  have hcW := (hW.cell (p := ⟨Bs, 0, none⟩) (hCw _ hCs)).trans hcell
  have hnW := (hW.cell (p := ⟨Bn, 0, none⟩) (hCw _ hCn)).trans hcn
  clear hF
  gi_wp2
  gi_loopw [4] (fun i wr => ∃ (k : Nat) (pre : List ChunkX), i = .int .i64 (k : Int) ∧ Aside0 (k ≤ b.length + 8) ∧ Aside0 (pre.map ChunkX.bs ++ Pl.chunks (b.drop k) = Pl.chunks b) ∧ Aside0 (∃ G, (∀ q, G q → q < wr.heap.size ∧ ¬ Cap q) ∧ J G pre wr) ∧ Aside0 (Below w0.heap.size w0 wr ∧ W.heap.size ≤ wr.heap.size ∧ wr.cell? ⟨Bs, 0, none⟩ = some (.slice A0 b.length c0) ∧ wr.cell? ⟨Bn, 0, none⟩ = some (.int .i64 8))) (fun i _ => b.length + 8 - (intOf i).toNat)
  case atStart => exact ⟨0, [], rfl, ⟨by omega⟩, ⟨by simp⟩, ⟨⟨G0, hG0, h0⟩⟩, ⟨bthen hb0 hW, Nat.le_refl _, hcW, hnW⟩⟩
  case round =>
    obtain ⟨k, pre, rfl, hk, hpre, HJ, HB⟩ := hrel
    have hcr := HB.out.2.2.1
    have hcn := HB.out.2.2.2
    by_cases hlt : k < b.length
    · have hd : decide ((k : Int) < (b.length : Int)) = true := by simpa using hlt
      obtain ⟨m, hm⟩ : ∃ m, min 8 (b.length - k) = m := ⟨_, rfl⟩
      have hFr := Kd.F_below HF.out HB.out.1
      obtain ⟨A3, hfrom, _⟩ := byte_from hFr hc0 k (by omega)
      have hfrom' := hfrom .i64 (k : Int) rfl
      obtain ⟨A4, hcut, hV⟩ := byte_cut3 HF.out hc0 k (k + m) (by omega) (by omega)
      rw [show k + m - k = m by omega] at hcut hV
      have HCUT := Lib.hid hcut
      have hbl : (b.take (k + m)).drop k = (b.drop k).take 8 := by
        rw [List.drop_take, show k + m - k = m by omega, ← hm]
        rcases Nat.le_total 8 (b.length - k) with h | h
        · rw [Nat.min_eq_left h]
        · rw [Nat.min_eq_right h, List.take_of_length_le (by simp), List.take_of_length_le (by simp; omega)]
      rw [hbl] at hV
      have hml : ((b.drop k).take 8).length = m := by simp; omega
      have hne : b.drop k ≠ [] := fun h => by have := congrArg List.length h; simp at this; omega
      have HC := Lib.hid (Pl.chunks_cons hne)
      obtain ⟨x, hx⟩ : ∃ x, (b.drop k).take 8 = x := ⟨_, rfl⟩
      rw [hx] at hV hml HC
      rw [List.drop_drop] at HC
      have HV := Lib.hid hV
      have HX := Lib.hid hml
      have HM := Lib.hid hm
      have hk0 : (0 : Int) ≤ (k : Int) := by omega
      have hk1 : (k : Int) ≤ (b.length : Int) := by omega
      clear hfrom hcut hV hbl hne hx hFr hml
      have mixed : Try.prog.follows .mixedOrders = true := by kernel_rfl
      obtain ⟨r, hr⟩ : ∃ r, b.length - k = r := ⟨_, rfl⟩
      rw [hr] at hm hfrom' HM
      gi_wp2
      by_cases h8 : 8 ≤ r
      · obtain rfl : m = 8 := by omega
        have h8a : ¬ ((r : Int) < 8) := by omega
        have hcut' := HCUT.out .i64 .i64 .i64 (k : Int) ((k : Int) + 8) ((k : Int) + 8) rfl (by omega) (by omega)
        clear hm
        gi_region_o
        obtain ⟨G, hGb, hJr⟩ := HJ.out
        have hG5 : ∀ q, G q → q < wr.drew.heap.size ∧ ¬ Cap q := hGb
        have hgood : ChunkGood w0 (Pl.chunks b) pre ⟨x, A4, 8⟩ wr.drew := ⟨⟨Pl.chunks (b.drop (k + 8)), by
          have := hpre.out
          rw [HC.out] at this
          rw [← this]
          simp⟩, by show Rd kb w0 (.slice A4 x.length _) x; rw [HX.out]; exact HV.out⟩
        obtain ⟨fn, tmps, assign, body, hy, hR⟩ := hY G pre ⟨x, A4, 8⟩ wr.drew (hJ _ _ _ _ hJr (Stays.of_below (below_drew (Below.refl _ _)))) hG5 hgood (fun k hk => hk.elim)
        dsimp only [ChunkX.encs] at hy
        rw [HX.out] at hy
        have HGD := Lib.hid hgood
        have HGB := Lib.hid hGb
        have hw8 : IntKind.i64.wrap ((k : Int) + 8) = (k : Int) + 8 := IntWalk.i64_in _ (by omega)
        clear hgood hJr hG5 hGb
        gi_wp2
        refine (yield_in0 hR).mono ?_
        rintro e w6 ⟨G', hmv, hgr, (⟨rfl, hJ6⟩ | ⟨rfl, hJx6⟩)⟩
        · have hs6 := hmv.size
          have hs0 : w0.heap.size ≤ wr.drew.heap.size := HB.out.1.size
          have hk6 : Below w0.heap.size w0 w6 := (HB.out.1.drew).trans (hmv.below hs0 (fun q hq => Nat.le_of_not_lt (fun h => (HGB.out q hq).2 (hC0 q h))))
          have c1 : w6.cell? ⟨Bs, 0, none⟩ = some (.slice A0 b.length c0) := (World.cell?_of_block (hmv.block Bs (World.block_lt_of_cell? _ _ HB.out.2.2.1) (fun h => (HGB.out _ h).2 hCs))).trans HB.out.2.2.1
          have c2 : w6.cell? ⟨Bn, 0, none⟩ = some (.int .i64 8) := (World.cell?_of_block (hmv.block Bn (World.block_lt_of_cell? _ _ HB.out.2.2.2) (fun h => (HGB.out _ h).2 hCn))).trans HB.out.2.2.2
          have hs7 : W.heap.size ≤ w6.heap.size := Nat.le_trans HB.out.2.1 hs6
          have hJ6' : ∃ G, (∀ q, G q → q < w6.heap.size ∧ ¬ Cap q) ∧ J G (pre ++ [(⟨x, A4, 8⟩ : ChunkX)]) w6 := ⟨G', (fun q hq => by
            obtain ⟨h1, h2⟩ := hgr q hq
            refine ⟨h1, fun hc => ?_⟩
            rcases h2 with h2 | h2
            · exact (HGB.out q h2).2 hc
            · have := hCw q hc
              have := HB.out.2.1
              have h3 : wr.heap.size ≤ q := h2
              omega), hJ6⟩
          have HJ6 := Lib.hid hJ6'
          have HB6 := Lib.hid hk6
          clear hJ6 hJ6' hmv hgr hk6 hR hy hs6 hs0 hcr hcn
          gi_wp2
          go_roundw
          case rel => exact ⟨k + 8, _, by go_num, ⟨by omega⟩, ⟨by have := hpre.out; rw [HC.out] at this; rw [← this]; simp⟩, ⟨HJ6.out⟩, ⟨HB6.out, hs7, c1, c2⟩⟩
          case measure => simp only [intOf]; omega
        · gi_wp2
          refine bodyPost_ret (results_none rfl _ _ _) rfl ?_
          exact ⟨⟨_, rfl⟩, .inr ⟨_, _, HGD.out.1, hJx6⟩⟩
      · obtain rfl : m = r := by omega
        have h8a : ((m : Int) < 8) := by omega
        have hcut' := HCUT.out .i64 .i64 .i64 (k : Int) ((k : Int) + (m : Int)) ((k : Int) + (m : Int)) rfl (by omega) (by omega)
        clear hm
        gi_region_o
        obtain ⟨G, hGb, hJr⟩ := HJ.out
        have hG5 : ∀ q, G q → q < wr.drew.heap.size ∧ ¬ Cap q := hGb
        have hgood : ChunkGood w0 (Pl.chunks b) pre ⟨x, A4, m⟩ wr.drew := ⟨⟨Pl.chunks (b.drop (k + 8)), by
          have := hpre.out
          rw [HC.out] at this
          rw [← this]
          simp⟩, by show Rd kb w0 (.slice A4 x.length _) x; rw [HX.out]; exact HV.out⟩
        obtain ⟨fn, tmps, assign, body, hy, hR⟩ := hY G pre ⟨x, A4, m⟩ wr.drew (hJ _ _ _ _ hJr (Stays.of_below (below_drew (Below.refl _ _)))) hG5 hgood (fun k hk => hk.elim)
        dsimp only [ChunkX.encs] at hy
        rw [HX.out] at hy
        have HGD := Lib.hid hgood
        have HGB := Lib.hid hGb
        have hw8 : IntKind.i64.wrap ((k : Int) + 8) = (k : Int) + 8 := IntWalk.i64_in _ (by omega)
        clear hgood hJr hG5 hGb
        gi_wp2
        refine (yield_in0 hR).mono ?_
        rintro e w6 ⟨G', hmv, hgr, (⟨rfl, hJ6⟩ | ⟨rfl, hJx6⟩)⟩
        · have hs6 := hmv.size
          have hs0 : w0.heap.size ≤ wr.drew.heap.size := HB.out.1.size
          have hk6 : Below w0.heap.size w0 w6 := (HB.out.1.drew).trans (hmv.below hs0 (fun q hq => Nat.le_of_not_lt (fun h => (HGB.out q hq).2 (hC0 q h))))
          have c1 : w6.cell? ⟨Bs, 0, none⟩ = some (.slice A0 b.length c0) := (World.cell?_of_block (hmv.block Bs (World.block_lt_of_cell? _ _ HB.out.2.2.1) (fun h => (HGB.out _ h).2 hCs))).trans HB.out.2.2.1
          have c2 : w6.cell? ⟨Bn, 0, none⟩ = some (.int .i64 8) := (World.cell?_of_block (hmv.block Bn (World.block_lt_of_cell? _ _ HB.out.2.2.2) (fun h => (HGB.out _ h).2 hCn))).trans HB.out.2.2.2
          have hs7 : W.heap.size ≤ w6.heap.size := Nat.le_trans HB.out.2.1 hs6
          have hJ6' : ∃ G, (∀ q, G q → q < w6.heap.size ∧ ¬ Cap q) ∧ J G (pre ++ [(⟨x, A4, m⟩ : ChunkX)]) w6 := ⟨G', (fun q hq => by
            obtain ⟨h1, h2⟩ := hgr q hq
            refine ⟨h1, fun hc => ?_⟩
            rcases h2 with h2 | h2
            · exact (HGB.out q h2).2 hc
            · have := hCw q hc
              have := HB.out.2.1
              have h3 : wr.heap.size ≤ q := h2
              omega), hJ6⟩
          have HJ6 := Lib.hid hJ6'
          have HB6 := Lib.hid hk6
          clear hJ6 hJ6' hmv hgr hk6 hR hy hs6 hs0 hcr hcn
          gi_wp2
          go_roundw
          case rel => exact ⟨k + 8, _, by go_num, ⟨by omega⟩, ⟨by have := hpre.out; rw [HC.out] at this; rw [← this]; simp⟩, ⟨HJ6.out⟩, ⟨HB6.out, hs7, c1, c2⟩⟩
          case measure => simp only [intOf]; omega
        · gi_wp2
          refine bodyPost_ret (results_none rfl _ _ _) rfl ?_
          exact ⟨⟨_, rfl⟩, .inr ⟨_, _, HGD.out.1, hJx6⟩⟩
    · have hd : decide ((k : Int) < (b.length : Int)) = false := by simpa using hlt
      have hpre2 := hpre.out
      rw [List.drop_of_length_le (by omega), Pl.chunks_nil, List.append_nil] at hpre2
      have HP := Lib.hid hpre2
      clear hpre2
      gi_wp2
      go_end0
      obtain ⟨G, _, hJ⟩ := HJ.out
      exact ⟨⟨_, rfl⟩, .inl ⟨pre, G, HP.out, hJ⟩⟩
end Go.Proofs.Ytchbfeejpdfmhaa
/-! dump.All: its iterator's contract. -/
set_option linter.unusedSimpArgs false
set_option linter.unusedVariables false
namespace Go.Proofs.Ytchbfeejpdfmhaa
open Go.RowKit Go.Shelf Go.Proofs.YtchbfeejpdfmhaaW.PrintWords Go.Proofs.YtchbfeejpdfmhaaW.PrintLast Go.Proofs.YtchbfeejpdfmhaaW.PrintMore
attribute [local go_sem] Oper.semAt_some

namespace Pl
def dumpHead : List UInt8 := [99, 114, 101, 101, 108, 100, 109, 112]
/-- what eight bytes, or fewer, tell -/
def dumpOne (at_ : Int) (x : List UInt8) : ItT := if x.length = 8 then (true, x.take 4, x.drop 4, 0, 0) else (false, [], [], 5, at_)
def dumpOf : Int → List (List UInt8) → List ItT
  | _, [] => []
  | at_, x :: r => dumpOne at_ x :: dumpOf (at_ + (x.length : Int)) r
def lens : List (List UInt8) → Int
  | [] => 0
  | x :: r => (x.length : Int) + lens r
theorem lens_app (a b : List (List UInt8)) : lens (a ++ b) = lens a + lens b := by
  induction a with
  | nil => simp [lens]
  | cons x r ih => simp only [List.cons_append, lens, ih]; omega
theorem lens_nonneg (a : List (List UInt8)) : 0 ≤ lens a := by
  induction a with
  | nil => simp [lens]
  | cons x r ih => simp only [lens]; omega
theorem dumpOf_app (a b : List (List UInt8)) : ∀ at_ : Int, dumpOf at_ (a ++ b) = dumpOf at_ a ++ dumpOf (at_ + lens a) b := by
  induction a with
  | nil => intro at_; simp [dumpOf, lens]
  | cons x r ih =>
    intro at_
    simp only [List.cons_append, dumpOf, lens, ih]
    rw [show at_ + (x.length : Int) + lens r = at_ + ((x.length : Int) + lens r) by omega]
theorem chunks_lens (n : Nat) : ∀ b : List UInt8, b.length ≤ n → lens (chunks b) = (b.length : Int) := by
  induction n with
  | zero =>
    intro b h
    have : b = [] := List.eq_nil_of_length_eq_zero (by omega)
    subst this
    rw [chunks_nil]; rfl
  | succ n ih =>
    intro b h
    by_cases hb : b = []
    · subst hb; rw [chunks_nil]; rfl
    · have hp := List.length_pos_iff.2 hb
      rw [chunks_cons hb]
      simp only [lens]
      rw [ih (b.drop 8) (by simp; omega)]
      simp
      omega
/-- what bytes that are edges tell -/
def dump (b : List UInt8) : List ItT := if b.take 8 = dumpHead then dumpOf 8 (chunks (b.drop 8)) else [(false, [], [], 100, 0)]
end Pl

/-- At a call in a fence: the world under a name. -/
theorem callsIn_at {F : Fence} {n : Nat} {P : Program} {f : FuncId} {args : Array Value} {W : World} {R : Ending → World → Prop} (h : ∀ W', W = W' → CallsIn F n P f args W' R) : CallsIn F n P f args W R := h W rfl
/-- At a piece's end: the world under a name. -/
theorem exit_at {Q : Exit → Act → World → Prop} {e : Exit} {a : Act} {W : World} (h : ∀ W', W = W' → Q e a W') : Q e a W := h W rfl
/-- At a piece of code in a fence: the world under a name. -/
theorem wpIn_at {F : Fence} {n : Nat} {P : Program} {c : Code} {Q : Exit → Act → World → Prop} {a : Act} {W : World} (h : ∀ W', W = W' → c.wpIn F n P Q a W') : c.wpIn F n P Q a W := h W rfl
/-- Two clones, in either order, and an item made of them. -/
def TwoSaid (mk : Value → Value → Value → Value → Value → Value → Value → Act) (w W2 : World) (ta tb : List UInt8) (e : Exit) (ac : Act) (W5 : World) : Prop :=
  ∃ (AT AF : Option Addr) (cT cF : Nat) (t28 t29 t30 t31 t32 t33 t34 : Value), e = .normal ∧ ac = mk t28 t29 t30 t31 t32 t33 t34 ∧ Blk W5 W2.heap.size #[.bool true, .slice AT ta.length cT, .slice AF tb.length cF, .int .i64 0, .int .i64 0] 36 ∧ Below W2.heap.size W2 W5 ∧ OwnB W5 w.heap.size (fun k => W2.heap.size < k) (.slice AT ta.length cT) ta ∧ OwnB W5 w.heap.size (fun k => W2.heap.size < k) (.slice AF tb.length cF) tb
/-- Five stores into a block of five cells. -/
theorem set5 {W : World} {g : Nat} {t : TypeId} {x0 x1 x2 x3 x4 : Value} (h : Blk W g #[x0, x1, x2, x3, x4] t) (y0 y1 y2 y3 y4 : Value) :
    Blk (((((W.setCell ⟨g, 0, none⟩ y0).setCell ⟨g, 1, none⟩ y1).setCell ⟨g, 2, none⟩ y2).setCell ⟨g, 3, none⟩ y3).setCell ⟨g, 4, none⟩ y4) g #[y0, y1, y2, y3, y4] t ∧
    Put W (((((W.setCell ⟨g, 0, none⟩ y0).setCell ⟨g, 1, none⟩ y1).setCell ⟨g, 2, none⟩ y2).setCell ⟨g, 3, none⟩ y3).setCell ⟨g, 4, none⟩ y4) g := by
  refine ⟨((((h.set 0 y0 rfl).set 1 y1 rfl).set 2 y2 rfl).set 3 y3 rfl).set 4 y4 rfl, ?_⟩
  have one : ∀ (V : World) (i : Nat) (y : Value), Put V (V.setCell ⟨g, i, none⟩ y) g := fun V i y => by
    have h0 := (Below.refl 0 V).setCell (p := ⟨g, i, none⟩) (Nat.zero_le _) y
    exact ⟨h0.os, h0.tape, h0.output, by simp, fun k hk => Below.heap_setCell V ⟨g, i, none⟩ y k hk⟩
  have two : ∀ {A B C : World}, Put A B g → Put B C g → Put A C g := fun h k => ⟨k.os.trans h.os, k.tape.trans h.tape, k.output.trans h.output, k.size.trans h.size, fun i hi => (k.block i hi).trans (h.block i hi)⟩
  exact two (two (two (two (one _ _ _) (one _ _ _)) (one _ _ _)) (one _ _ _)) (one _ _ _)
/-- Between two edges. -/
structure DumpI (J : (Nat → Prop) → List ItemX → World → Prop) (Cap Cap2 : Nat → Prop) (Bt : Nat) (Wa : World) (G : Nat → Prop) (pre : List ChunkX) (W : World) : Prop where
  j : ∃ Go preI, J Go preI W ∧ preI.map ItemX.it = Pl.dumpOf 8 (pre.map ChunkX.bs) ∧ (∀ k, (Go k ∨ ∃ x ∈ preI, ItemHand x k) → G k ∧ k ≠ Bt) ∧ ∀ k, Go k → k < W.heap.size ∧ ¬ Cap k
  k : Moves (fun k => ¬ Cap2 k) Wa W
  b : Blk W Bt #[.int .i64 (8 + Pl.lens (pre.map ChunkX.bs))] 3
  g : G Bt
theorem dumpI_stable {J : (Nat → Prop) → List ItemX → World → Prop} {Cap Cap2 : Nat → Prop} {Bt : Nat} {Wa : World} {n0 : Nat} (hJ : Stable ItemHand n0 J) (hn : n0 ≤ Wa.heap.size) (hC : ∀ k, Cap2 k → k < Wa.heap.size) : Stable NoHand Wa.heap.size (DumpI J Cap Cap2 Bt Wa) := by
  rintro G pre A B ⟨⟨Go, preI, h1, h2, h3, h4⟩, h5, h6, h7⟩ hs
  refine ⟨⟨Go, preI, hJ _ _ _ _ h1 (hs.mono hn (fun k hk => .inl (h3 k hk).1)), h2, h3, fun k hk => ⟨Nat.lt_of_lt_of_le (h4 k hk).1 hs.size, (h4 k hk).2⟩⟩, ?_, ⟨(hs.block _ h6.lt (.inr (.inl h7))).trans h6.out⟩, h7⟩
  exact ⟨hs.os.trans h5.os, hs.tape.trans h5.tape, hs.output.trans h5.output, Nat.le_trans h5.size hs.size, fun k hk hn => (hs.block k (Nat.lt_of_lt_of_le hk h5.size) (.inl hk)).trans (h5.block k hk hn)⟩
def DumpX (Jx : (Nat → Prop) → List ItemX → World → Prop) (L : List Pl.ItT) (co : Code) (G : Nat → Prop) (_ : List ChunkX) (W : World) : Prop :=
  co = .ret ∧ ∃ Go preI, Jx Go preI W ∧ (∃ rest, preI.map ItemX.it ++ rest = L) ∧ ∀ k, (Go k ∨ ∃ x ∈ preI, ItemHand x k) → G k
theorem dumpX_stable {Jx : (Nat → Prop) → List ItemX → World → Prop} {L : List Pl.ItT} {n0 n1 : Nat} (hJ : Stable ItemHand n0 Jx) (hn : n0 ≤ n1) (co : Code) : Stable NoHand n1 (DumpX Jx L co) := by
  rintro G pre A B ⟨h0, Go, preI, h1, h2, h3⟩ hs
  exact ⟨h0, Go, preI, hJ _ _ _ _ h1 (hs.mono hn (fun k hk => .inl (h3 k hk))), h2, h3⟩

set_option maxRecDepth 100000 in
set_option maxHeartbeats 4000000 in
theorem dump1_seq2 (Bb : Nat) (v : Value) (b : List UInt8) (hl : b.length ≤ 1048576) (w0 w : World) (hb0 : Below w0.heap.size w0 w) (Cap : Nat → Prop) (hC0 : ∀ k, k < w0.heap.size → Cap k) (hCw : ∀ k, Cap k → k < w.heap.size) (hCb : Cap Bb)
    (hcell : w.cell? ⟨Bb, 0, none⟩ = some v) (hv : Rd kb w0 v b) :
    Seq2 Try.prog 48 #[.pointer (some ⟨Bb, 0, none⟩)] ItemX.encs (ItemGood (Pl.dump b) w.heap.size) ItemHand Cap (fun xs => xs.map ItemX.it = Pl.dump b) (fun pre => ∃ rest, pre.map ItemX.it ++ rest = Pl.dump b) w := by
  obtain ⟨A0, c0, rfl, hc0, hF⟩ := hv
  intro l J Jx W G0 hW hG0 hJ hJx hY h0
  refine callsIn_of_wp_marks Try.func48 rfl trivial ?_ rfl
  simp only [Try.ntmps48, List.size_toArray, List.length_cons, List.length_nil, Nat.reduceAdd, Nat.reduceSub, Array.replicate_succ, Array.replicate_zero, List.push_toArray, List.append_toArray, List.nil_append, List.cons_append]
  have HV := Lib.hid (⟨A0, c0, rfl, hc0, hF⟩ : Rd kb w0 (.slice A0 b.length c0) b)
  clear hF
  have hWs := hW.size
  have hcellW : W.cell? ⟨Bb, 0, none⟩ = some (.slice A0 b.length c0) := (hW.cell (p := ⟨Bb, 0, none⟩) (hCw _ hCb)).trans hcell
  have hlb : Bb < W.heap.size := by have := hCw _ hCb; omega
  have kc := fun (w : World) (C : Array Value) (n c : Nat) => Lib.run_convert_bytes_const (P := Try.prog) w 22 5 C n c Try.underlying22 Try.underlying5
  have kc1 := fun (w : World) (C : Array Value) (n c : Nat) (g : Nat) (hg : g = w.heap.size) => Go.Joins.run_convert_bytes_const_at (P := Try.prog) w 22 5 C n c g hg Try.underlying22 Try.underlying5
  have kc2 := kc1 (W.alloc (.cells #[.func (.yield l) #[] #[]] 58)) #[.int .u8 99, .int .u8 114, .int .u8 101, .int .u8 101, .int .u8 108, .int .u8 100, .int .u8 109, .int .u8 112] 8 8 (W.heap.size + 1) (by simp)
  clear kc kc1
  gi_wp2
  refine ⟨trivial, callsIn_at fun Wc hWc => ?_⟩
  have hbc : Below W.heap.size W Wc := by rw [← hWc]; exact below_alloc (below_alloc (Below.refl _ _) _) _
  have hsz : Wc.heap.size = W.heap.size + 2 := by rw [← hWc]; simp
  have KY : Blk Wc W.heap.size #[.func (.yield l) #[] #[]] 58 := by rw [← hWc]; exact (Blk.new _ _ _).alloc _
  have hlit : Rd kb Wc (.slice (some ⟨W.heap.size + 1, 0, none⟩) 8 8) Pl.dumpHead := by
    have h1 := lit_rd (W.alloc (.cells #[.func (.yield l) #[] #[]] 58)) 8 #[.int .u8 99, .int .u8 114, .int .u8 101, .int .u8 101, .int .u8 108, .int .u8 100, .int .u8 109, .int .u8 112] 5 (8, 9) Pl.dumpHead rfl (by decide) (by decide)
    rw [← hWc]
    simp only [World.size_alloc] at h1
    exact Kd.V_mono h1 (fun _ _ => trivial)
  clear hWc kc2 hcell hcellW
  refine (callsIn_wide.2 (cutPrefix_any _ _ b Pl.dumpHead w0 Wc HV.out (Rd.below HV.out (bthen hb0 (bthen hW hbc))) hlit)).mono ?_
  rintro e Wd ⟨va, rfl, hva, rfl⟩
  rw [show Pl.dumpHead.length = 8 from rfl] at hva ⊢
  have hJc : J G0 [] Wd := hJ _ _ _ _ h0 (Stays.of_below hbc)
  have KYc := KY.cell.1 0
  by_cases hh : b.take 8 = Pl.dumpHead
  · rw [if_pos hh] at hva
    rw [decide_eq_true hh]
    have HD := Lib.hid (show Pl.dump b = Pl.dumpOf 8 (Pl.chunks (b.drop 8)) by unfold Pl.dump; rw [if_pos hh])
    obtain ⟨A1, c1, hva1⟩ := Kd.V_slice hva
    subst hva1
    obtain ⟨y, hyy⟩ : ∃ y, b.drop 8 = y := ⟨_, rfl⟩
    rw [hyy] at hva HD ⊢
    have HVA := Lib.hid hva
    have HYL := Lib.hid (show y.length ≤ 1048576 by rw [← hyy]; simp; omega)
    clear hh hva hlit KYc hyy
    gi_wp2
    refine ⟨trivial, callsIn_at fun We hWe => ?_⟩
    have hbe : Below Wd.heap.size Wd We := by rw [← hWe]; exact below_alloc (Below.refl _ _) _
    have KT : Blk We (W.heap.size + 2) #[.int .i64 8] 3 := by
      rw [← hWe, ← hsz]
      exact Blk.new _ _ _
    have hse : We.heap.size = W.heap.size + 3 := by rw [← hWe]; simp [hsz]
    have KYe := KY.belowW hbe
    clear hWe
    have hb0e : Below w0.heap.size w0 We := bthen hb0 (bthen hW (bthen hbc hbe))
    refine (callsIn_wide.2 (chunk_any _ y We (Rd.below HVA.out hb0e))).mono ?_
    rintro e Wa ⟨rfl, hWa⟩
    have hba : Below We.heap.size We Wa := by rw [hWa]; exact below_alloc (below_alloc (Below.refl _ _) _) _
    have hsa : Wa.heap.size = W.heap.size + 5 := by rw [hWa]; simp [hse]
    have KS : Blk Wa (W.heap.size + 3) #[.slice A1 y.length c1] 22 := by
      rw [hWa, ← hse]
      exact (Blk.new _ _ _).alloc _
    have KN : Blk Wa (W.heap.size + 4) #[.int .i64 8] 3 := by
      rw [hWa]
      have := Blk.new (We.alloc (.cells #[.slice A1 y.length c1] 22)) #[.int .i64 8] 3
      simpa [hse] using this
    have KTa := KT.belowW hba
    have KYa := KYe.belowW hba
    rw [show We.heap.size + 1 = W.heap.size + 4 by omega]
    simp only [hse]
    have hJa : J G0 [] Wa := hJ _ _ _ _ hJc (Stays.of_below (bthen hbe hba))
    have hbWa : Below W.heap.size W Wa := bthen hbc (bthen hbe hba)
    clear hWa hse hsz hbe hba KT KY KYe hJc hbc
    have hC2 : ∀ k, (Cap k ∨ k = W.heap.size ∨ k = W.heap.size + 3 ∨ k = W.heap.size + 4) → k < Wa.heap.size := by
      rintro k (hk | rfl | rfl | rfl)
      · have := hCw k hk; omega
      · omega
      · omega
      · omega
    gi_wp2
    refine range_seq2 (gf := 57) (lb := #[.pointer (some ⟨W.heap.size + 3, 0, none⟩), .pointer (some ⟨W.heap.size + 4, 0, none⟩)]) rfl (enters_of Try.func57 (by kernel_rfl) rfl)
      (chunk1_seq2 (W.heap.size + 3) (W.heap.size + 4) (.slice A1 y.length c1) y (by have := HYL.out; omega) w0 Wa (bthen hb0 (bthen hW hbWa)) (fun k => Cap k ∨ k = W.heap.size ∨ k = W.heap.size + 3 ∨ k = W.heap.size + 4) (fun k hk => .inl (hC0 k hk)) hC2 (by simp) (by simp) (KS.cell.1 0) (KN.cell.1 0) HVA.out) (fun _ => rfl) hC2
      (DumpI J Cap (fun k => Cap k ∨ k = W.heap.size ∨ k = W.heap.size + 3 ∨ k = W.heap.size + 4) (W.heap.size + 2) Wa) (DumpX Jx (Pl.dump b)) (dumpI_stable hJ (by omega) hC2) (dumpX_stable hJx (by omega)) (fun k => G0 k ∨ k = W.heap.size + 2)
      (fun k hk => by
        rcases hk with hk | rfl
        · refine ⟨by have := (hG0 k hk).1; omega, fun h => ?_⟩
          rcases h with h | h | h | h
          · exact (hG0 k hk).2 h
          · have := (hG0 k hk).1; omega
          · have := (hG0 k hk).1; omega
          · have := (hG0 k hk).1; omega
        · refine ⟨by omega, fun h => ?_⟩
          rcases h with h | h | h | h
          · have := hCw _ h; omega
          · omega
          · omega
          · omega)
      ⟨⟨G0, [], hJa, rfl, (fun k hk => by
        rcases hk with hk | ⟨_, hm, _⟩
        · exact ⟨.inl hk, by have := (hG0 k hk).1; omega⟩
        · cases hm), fun k hk => ⟨by have := (hG0 k hk).1; omega, (hG0 k hk).2⟩⟩, Moves.refl _ _, by simpa [Pl.lens] using KTa, .inr rfl⟩ ?round ?done ?stop
    case done =>
      intro G xs W3 hS hI hne hD
      obtain ⟨Go, preI, h1, h2, h3, h4⟩ := hI.j
      have hr : preI.map ItemX.it = Pl.dump b := by rw [h2, hS, HD.out]
      gi_wp2
      refine ⟨by simp, .inl ⟨_, _, rfl, run_takeDeferred hD, ?_⟩⟩
      exact ⟨_, results_none rfl _ _ _, ⟨_, rfl⟩, .inl ⟨preI, Go, hr, hJ _ _ _ _ h1 (Stays.of_put _ (by omega) (fun h => hne _ (.inl (h3 _ h).1) rfl))⟩⟩
    case stop =>
      rintro G co pre W3 hSp ⟨rfl, Go, preI, h1, h2, h3⟩ hne hD
      gi_wp2
      refine ⟨by simp, .inl ⟨_, _, rfl, run_takeDeferred hD, ?_⟩⟩
      exact ⟨_, results_none rfl _ _ _, ⟨_, rfl⟩, .inr ⟨preI, Go, h2, hJx _ _ _ _ h1 (Stays.of_put _ (by omega) (fun h => hne _ (.inl (h3 _ h)) rfl))⟩⟩
    case round =>
      intro l2 G pre x W1 hl1 hl2 hG hI hG2 hH hP
      dsimp only [ChunkX.encs]
      gi_wp2
      refine ⟨Moves.refl _ _, fun W2 _ hW2 _ => ?_⟩
      obtain ⟨o2, ho2⟩ := hW2
      have hg12 : W1.grownBy W2 (some l2) := by rw [ho2]; exact grownBy_putObj' _ _ _
      have hs12 : W1.heap.size ≤ W2.heap.size := hg12.size
      have hKeep := hI.k
      have KY2 : Blk W2 W.heap.size #[.func (.yield l) #[] #[]] 58 := (⟨(hKeep.block _ (by omega) (by simp)).trans KYa.out⟩ : Blk W1 W.heap.size _ _).grown hg12 (by simp; omega)
      have KT2 := hI.b.grown hg12 (by simp; omega)
      have hst12 : Stays W.heap.size G W1 W2 := by rw [ho2]; exact Stays.of_put _ (by omega) (fun h => (hG _ h).2.2.1 rfl)
      have hmv12 : Moves (fun k => ¬ (Cap k ∨ k = W.heap.size ∨ k = W.heap.size + 3 ∨ k = W.heap.size + 4)) W1 W2 := Moves.grown hg12 (fun k he hc => by cases he; have := hC2 _ hc; omega)
      clear ho2
      obtain ⟨⟨restL, hx2⟩, hx3⟩ := hG2
      have HX2 := Lib.hid hx2
      have HX3 := Lib.hid hx3
      clear hx2 hx3 hKeep
      obtain ⟨at_, hat⟩ : ∃ at_, 8 + Pl.lens (pre.map ChunkX.bs) = at_ := ⟨_, rfl⟩
      rw [hat] at KT2
      have ct0 := KT2.cell.1 0
      have hsz1 : W.heap.size + 2 < W2.heap.size := KT2.lt
      have HAT := Lib.hid hat
      clear hat
      have HB02 := Lib.hid (show Below w0.heap.size w0 W2 from (bthen hb0 (bthen hW hbWa)).trans ((hI.k.trans hmv12 (fun _ _ h => h)).below (by have := hb0.size; omega) (fun k hk => Nat.le_of_not_lt (fun h => hk (.inl (hC0 k h))))))
      by_cases h8 : x.bs.length = 8
      · have hx8 : (x.bs.length : Int) = 8 := by omega
        have hbe : ((x.bs.length : Int) == 8) = true := by rw [hx8]; rfl
        have hcx := (Kd.V_at HX3.out).2.1
        have hFx := (Kd.V_at HX3.out).2.2
        obtain ⟨hto, hVt⟩ := byte_to hFx hcx 4 (by omega)
        obtain ⟨Af, hfr, hVf⟩ := byte_from hFx hcx 4 (by omega)
        have hto' := hto .i64 4 rfl
        have hfr' := hfr .i64 4 rfl
        rw [h8] at hfr' hVf
        have hb02 := HB02.out
        have HT := Lib.hid (Kd.V_mono hVt (fun _ _ => trivial) : Rd kb w0 _ _)
        have HF2 := Lib.hid (Kd.V_mono hVf (fun _ _ => trivial) : Rd kb w0 _ _)
        have mixed : Try.prog.follows .mixedOrders = true := by kernel_rfl
        clear hto hfr hVt hVf hFx
        gi_wp2
        refine wpIn_at fun W3 hW3 => ?_
        have hb3 : Below W2.heap.size W2 W3 := by rw [← hW3]; exact below_alloc (Below.refl _ _) _
        have KX3 : Blk W3 W2.heap.size #[.bool false, .slice none 0 0, .slice none 0 0, .int .i64 5, .int .i64 at_] 36 := by rw [← hW3]; exact Blk.new _ _ _
        clear hW3
        have h04 : Below w0.heap.size w0 W3 := hb02.trans (hb3.mono hb02.size)
        obtain ⟨ta, hta⟩ : ∃ ta, x.bs.take 4 = ta := ⟨_, rfl⟩
        obtain ⟨tb, htb⟩ : ∃ tb, x.bs.drop 4 = tb := ⟨_, rfl⟩
        rw [hta] at HT
        rw [htb] at HF2
        have HTA := Lib.hid (show ta.length ≤ 8 by rw [← hta]; simp; omega)
        have HTB := Lib.hid (show tb.length ≤ 8 by rw [← htb]; simp; omega)
        have HTAB := Lib.hid (⟨hta, htb⟩ : x.bs.take 4 = ta ∧ x.bs.drop 4 = tb)
        have HTr := fun (W : World) (hb : Below w0.heap.size w0 W) => CallsIn.inRound l2 (callsIn_wide (n := 8).2 (clone_any (.slice x.A 4 x.c) ta W (Rd.below HT.out hb) (by have := HTA.out; omega)))
        have HFr := fun (W : World) (hb : Below w0.heap.size w0 W) => CallsIn.inRound l2 (callsIn_wide (n := 8).2 (clone_any (.slice Af 4 (x.c - 4)) tb W (Rd.below HF2.out hb) (by have := HTB.out; omega)))
        clear hta htb
        have h04d : Below w0.heap.size w0 W3.drew := h04.drew
        have KX3d := KX3.drew
        have hWd : W2.heap.size < W3.drew.heap.size := KX3d.lt
        refine wpIn_mono (Q := TwoSaid (fun t28 t29 t30 t31 t32 t33 t34 => { tmps := #[.func (.yield l) #[] #[], .pointer (some ⟨Bb, 0, none⟩), .pointer (some ⟨W.heap.size, 0, none⟩), .slice A1 y.length c1, .bool true, .pointer (some ⟨W.heap.size + 2, 0, none⟩), .slice x.A x.bs.length x.c, .pointer (some ⟨W2.heap.size, 0, none⟩), .tuple #[.slice A1 y.length c1, .bool true], .slice A0 b.length c0, .slice (some ⟨W.heap.size + 1, 0, none⟩) 8 8, .slice (some ⟨W.heap.size + 1, 0, none⟩) 8 8, .tuple #[.slice A1 y.length c1, .bool true], .slice A1 y.length c1, .bool true, .bool true, .bool false, undef, undef, undef, .slice A1 y.length c1, .func (.func 57) #[] #[.pointer (some ⟨W.heap.size + 3, 0, none⟩), .pointer (some ⟨W.heap.size + 4, 0, none⟩)], .slice x.A x.bs.length x.c, .int .i64 at_, .agg #[.bool false, .slice none 0 0, .slice none 0 0, .int .i64 5, .int .i64 at_], .slice x.A x.bs.length x.c, .int .i64 8, .bool true, t28, t29, t30, t31, t32, t33, t34, undef, undef, undef, undef, undef, undef, undef, undef], defers := [] }) w W2 ta tb) ?reg ?imp
        case reg =>
          gi_region_with_o (refine ⟨trivial, ?_⟩; first | ((with_reducible refine (HTr _ ?hbT).mono ?_); (case hbT => (first | exact h04d | exact h04d.trans (hbF.mono h04d.size))); rintro e wT ⟨vT, rfl, hoT, hbT⟩; obtain ⟨AT, cT, hvT⟩ := Kd.N_slice hoT; subst hvT; have KXT : Blk wT W2.heap.size #[.bool false, .slice none 0 0, .slice none 0 0, .int .i64 5, .int .i64 at_] 36 := (by first | exact KX3d.belowW hbT | exact KXF.belowW hbT); obtain ⟨kT1, kT2⟩ := KXT.cell) | ((with_reducible refine (HFr _ ?hbF).mono ?_); (case hbF => (first | exact h04d | exact h04d.trans (hbT.mono h04d.size))); rintro e wF ⟨vF, rfl, hoF, hbF⟩; obtain ⟨AF, cF, hvF⟩ := Kd.N_slice hoF; subst hvF; have KXF : Blk wF W2.heap.size #[.bool false, .slice none 0 0, .slice none 0 0, .int .i64 5, .int .i64 at_] 36 := (by first | exact KX3d.belowW hbF | exact KXT.belowW hbF); obtain ⟨kF1, kF2⟩ := KXF.cell))
          all_goals (refine exit_at fun W5 hW5 => ?_)
          all_goals first | (obtain ⟨KX5, hP5⟩ := set5 KXF (.bool true) (.slice AT ta.length cT) (.slice AF tb.length cF) (.int .i64 0) (.int .i64 0); rw [hW5] at KX5 hP5; exact ⟨AT, AF, cT, cF, _, _, _, _, _, _, _, rfl, rfl, KX5, hP5.bel ((hb3.drew.trans (hbT.mono (by omega))).trans (hbF.mono (by have := hbT.size; omega))) (Nat.le_refl _), Kd.R_step (ownB_ok (Kd.R_lower (Kd.R_below (OwnB.of hoT) hbF) (by omega)) (fun k hk => by have := hoT.1 k hk; omega)) (fun k hk _ => hP5.block k (by omega)), Kd.R_step (ownB_ok (Kd.R_lower (OwnB.of hoF) (by have := hbT.size; omega)) (fun k hk => by have := hoF.1 k hk; have := hbT.size; omega)) (fun k hk _ => hP5.block k (by omega))⟩) | (obtain ⟨KX5, hP5⟩ := set5 KXT (.bool true) (.slice AT ta.length cT) (.slice AF tb.length cF) (.int .i64 0) (.int .i64 0); rw [hW5] at KX5 hP5; exact ⟨AT, AF, cT, cF, _, _, _, _, _, _, _, rfl, rfl, KX5, hP5.bel ((hb3.drew.trans (hbF.mono (by omega))).trans (hbT.mono (by have := hbF.size; omega))) (Nat.le_refl _), Kd.R_step (ownB_ok (Kd.R_lower (OwnB.of hoT) (by have := hbF.size; omega)) (fun k hk => by have := hoT.1 k hk; have := hbF.size; omega)) (fun k hk _ => hP5.block k (by omega)), Kd.R_step (ownB_ok (Kd.R_lower (Kd.R_below (OwnB.of hoF) hbT) (by omega)) (fun k hk => by have := hoF.1 k hk; omega)) (fun k hk _ => hP5.block k (by omega))⟩)
        case imp =>
          rintro e ac W5 ⟨AT, AF, cT, cF, t28, t29, t30, t31, t32, t33, t34, rfl, rfl, KX5, hb25, hOT, hOF⟩
          have HOT := Lib.hid hOT
          have HOF := Lib.hid hOF
          have HB25 := Lib.hid hb25
          clear hOT hOF hb25 h04d h04 KX3 KX3d hb3 HTr HFr hto' hfr'
          have KY5 := KY2.belowW HB25.out
          have KT5 := KT2.belowW HB25.out
          obtain ⟨Go, preI, hj1, hj2, hj3, hj4⟩ := hI.j
          have hGoG : ∀ k, Go k → G k := fun k hk => (hj3 k (.inl hk)).1
          have hGo1 : ∀ k, Go k → k < W1.heap.size := fun k hk => (hG k (hGoG k hk)).1
          have hst : Stays W.heap.size G W1 W5 := hst12.trans (Stays.of_below HB25.out)
          have hJ5 : J Go preI W5 := hJ _ _ _ _ hj1 (hst.mono (Nat.le_refl _) (fun k hk => (hj3 k hk).1))
          have hs5 := HB25.out.size
          have hitem : Pl.dumpOne at_ x.bs = (true, ta, tb, 0, 0) := by unfold Pl.dumpOne; rw [if_pos h8, HTAB.out.1, HTAB.out.2]
          have hgood : ItemGood (Pl.dump b) w.heap.size preI ⟨(true, ta, tb, 0, 0), AT, cT, AF, cF⟩ W5 := by
            refine ⟨⟨Pl.dumpOf (at_ + (x.bs.length : Int)) restL, ?_⟩, ownB_ok HOT.out (fun k hk => by have := HOT.out.1 k hk; omega), ownB_ok HOF.out (fun k hk => by have := HOF.out.1 k hk; omega)⟩
            rw [HD.out, ← HX2.out, List.map_append, List.map_append, hj2, Pl.dumpOf_app, Pl.dumpOf_app, List.map_cons, List.map_nil, List.map_cons, List.map_nil]
            rw [Pl.lens_app]
            simp only [Pl.dumpOf, Pl.lens]
            rw [HAT.out, hitem, show 8 + (Pl.lens (List.map ChunkX.bs pre) + ((x.bs.length : Int) + 0)) = at_ + (x.bs.length : Int) by have := HAT.out; omega]
          have hhand : ∀ k, ItemHand ⟨(true, ta, tb, 0, 0), AT, cT, AF, cF⟩ k → W2.heap.size < k ∧ k < W5.heap.size := fun k hk => by
            rcases hk with hk | hk
            · exact ⟨HOT.out.1 k hk.symm, Kd.N_lt (Kd.R_N HOT.out) k hk.symm⟩
            · exact ⟨HOF.out.1 k hk.symm, Kd.N_lt (Kd.R_N HOF.out) k hk.symm⟩
          obtain ⟨fn, tmps, assign, body, hy, hR⟩ := hY Go preI ⟨(true, ta, tb, 0, 0), AT, cT, AF, cF⟩ W5 hJ5 (fun k hk => ⟨by have := hGo1 k hk; omega, (hj4 k hk).2⟩) hgood (fun k hk => ⟨fun h => by have := hhand k hk; have := hGo1 k h; omega, (hhand k hk).2⟩)
          dsimp only [ItemX.encs] at hy
          have HGD := Lib.hid hgood
          have HHD := Lib.hid hhand
          have HIM := Lib.hid hitem
          have HJ1 := Lib.hid hj2
          obtain ⟨kx1, kx2⟩ := KX5.cell
          have ky := KY5.cell.1 0
          have kt := KT5.cell.1 0
          have hY5 : W.heap.size < W5.heap.size := by omega
          clear hgood hhand hitem hj2 hst hj1 hJ5
          have hl0 := Pl.lens_nonneg (pre.map ChunkX.bs)
          have hat0 : 0 ≤ at_ := by have := HAT.out; omega
          have hat1 : at_ + (x.bs.length : Int) ≤ 1048600 := by
            have h1 := congrArg Pl.lens HX2.out
            rw [Pl.chunks_lens y.length y (Nat.le_refl _), List.map_append, Pl.lens_app, Pl.lens_app] at h1
            have h2 := Pl.lens_nonneg restL
            simp only [List.map_cons, List.map_nil, Pl.lens] at h1
            have := HAT.out
            have := HYL.out
            omega
          have hw1 : IntKind.i64.wrap (at_ + (x.bs.length : Int)) = at_ + (x.bs.length : Int) := IntWalk.i64_in _ (by omega)
          rw [hx8] at hw1 hat1
          gi_wp2
          refine (yield_in hR).mono ?_
          rintro e w6 ⟨G6, hmv6, hgr6, (⟨rfl, hJ6⟩ | ⟨rfl, hJx6⟩)⟩
          · have hs6 := hmv6.size
            have hBtGo : ¬ Go (W.heap.size + 2) := fun h => (hj3 _ (.inl h)).2 rfl
            have KT6 : Blk w6 (W.heap.size + 2) #[.int .i64 at_] 3 := ⟨(hmv6.block _ (by omega) hBtGo).trans KT5.out⟩
            obtain ⟨kt1, kt2⟩ := KT6.cell
            have HG6 := Lib.hid hgr6
            have HM6 := Lib.hid hmv6
            have HJ6 := Lib.hid hJ6
            clear hgr6 hmv6 hJ6 hR hy kx1 kx2 ky kt
            gi_wp2
            have hG6 : ∀ k, G6 k → k < w6.heap.size ∧ ¬ Cap k ∧ (G k ∨ W1.heap.size ≤ k) ∧ k ≠ W.heap.size + 2 := fun k hk => by
              obtain ⟨h1, h2⟩ := HG6.out k hk
              rcases h2 with h2 | h2
              · exact ⟨h1, (hj4 k h2).2, .inl (hGoG k h2), (hj3 k (.inl h2)).2⟩
              · exact ⟨h1, fun hc => by have := hCw k hc; omega, .inr (by omega), by omega⟩
            have hhd : ∀ k, (∃ z ∈ preI ++ [⟨(true, ta, tb, 0, 0), AT, cT, AF, cF⟩], ItemHand z k) → (G k ∨ W1.heap.size ≤ k) ∧ k < w6.heap.size ∧ k ≠ W.heap.size + 2 := fun k hk => by
              obtain ⟨z, hz, hk⟩ := hk
              rcases List.mem_append.1 hz with hz | hz
              · have h1 := hj3 k (.inr ⟨z, hz, hk⟩)
                exact ⟨.inl h1.1, by have := (hG k h1.1).1; omega, h1.2⟩
              · rw [List.mem_singleton.1 hz] at hk
                have := HHD.out k hk
                exact ⟨.inr (by omega), by omega, by omega⟩
            have m2 : Moves Go W2 w6 := (Moves.of_below HB25.out).trans HM6.out (fun k hk h => h)
            have m3 : Moves G W2 (w6.setCell ⟨W.heap.size + 2, 0, none⟩ (.int .i64 (at_ + 8))) := (m2.mono hGoG).trans (Moves.setCell w6 ⟨W.heap.size + 2, 0, none⟩ _ hI.g) (fun _ _ h => h)
            have hsz7 : (w6.setCell ⟨W.heap.size + 2, 0, none⟩ (.int .i64 (at_ + 8))).heap.size = w6.heap.size := by simp
            refine ⟨fun k => G k ∨ (W1.heap.size ≤ k ∧ k < w6.heap.size), m3, fun k hk => ⟨by rw [hsz7]; exact hk.elim (fun h => by have := (hG k h).1; omega) (fun h => h.2), hk.elim .inl (fun h => .inr h.1)⟩, ⟨⟨G6, preI ++ [⟨(true, ta, tb, 0, 0), AT, cT, AF, cF⟩], hJ _ _ _ _ HJ6.out (Stays.set _ _ _ (by show W.heap.size ≤ W.heap.size + 2; omega) (fun h => h.elim (fun h => (hG6 _ h).2.2.2 rfl) (fun h => (hhd _ h).2.2 rfl))), ?_, fun k hk => ?_, fun k hk => ⟨by rw [hsz7]; exact (hG6 k hk).1, (hG6 k hk).2.1⟩⟩, ?_, ?_, .inl hI.g⟩⟩
            · rw [List.map_append, List.map_append, Pl.dumpOf_app, HJ1.out, List.map_cons, List.map_nil, List.map_cons, List.map_nil]
              simp only [Pl.dumpOf]
              rw [HAT.out, HIM.out]
            · rcases hk with hk | hk
              · obtain ⟨h1, _, h2, h3⟩ := hG6 k hk
                exact ⟨h2.elim .inl (fun h => .inr ⟨h, h1⟩), h3⟩
              · obtain ⟨h1, h2, h3⟩ := hhd k hk
                exact ⟨h1.elim .inl (fun h => .inr ⟨h, h2⟩), h3⟩
            · exact (hI.k.trans hmv12 (fun _ _ h => h)).trans (m3.mono (fun k hk => (hG k hk).2.1)) (fun _ _ h => h)
            · have h1 := KT6.set 0 (.int .i64 (at_ + 8)) rfl
              have h2 : 8 + Pl.lens ((pre ++ [x]).map ChunkX.bs) = (at_ + 8) := by
                rw [List.map_append, Pl.lens_app]
                simp only [List.map_cons, List.map_nil, Pl.lens]
                have := HAT.out
                omega
              rw [h2]
              exact h1
          · gi_wp2
            have hs6 := hmv6.size
            refine ⟨fun k => G k ∨ (W1.heap.size ≤ k ∧ k < w6.heap.size), (((Moves.of_below HB25.out).trans hmv6 (fun k hk h => h)).mono hGoG), fun k hk => ⟨hk.elim (fun h => by have := (hG k h).1; omega) (fun h => h.2), hk.elim .inl (fun h => .inr h.1)⟩, rfl, G6, preI ++ [⟨(true, ta, tb, 0, 0), AT, cT, AF, cF⟩], hJx6, HGD.out.1, fun k hk => ?_⟩
            rcases hk with hk | ⟨z, hz, hk⟩
            · obtain ⟨h1, h2⟩ := hgr6 k hk
              rcases h2 with h2 | h2
              · exact .inl (hGoG k h2)
              · exact .inr ⟨by omega, h1⟩
            · rcases List.mem_append.1 hz with hz | hz
              · exact .inl (hj3 k (.inr ⟨z, hz, hk⟩)).1
              · rw [List.mem_singleton.1 hz] at hk
                have := HHD.out k hk
                exact .inr ⟨by omega, by omega⟩
      · have hbe : ((x.bs.length : Int) == 8) = false := beq_false_of_ne (by omega)
        obtain ⟨W5, hW5⟩ : ∃ W5, W2.alloc (.cells #[.bool false, .slice none 0 0, .slice none 0 0, .int .i64 5, .int .i64 at_] 36) = W5 := ⟨_, rfl⟩
        have HB25 := Lib.hid (show Below W2.heap.size W2 W5 by rw [← hW5]; exact below_alloc (Below.refl _ _) _)
        have KX5 : Blk W5 W2.heap.size #[.bool false, .slice none 0 0, .slice none 0 0, .int .i64 5, .int .i64 at_] 36 := by rw [← hW5]; exact Blk.new _ _ _
        have KY5 := KY2.belowW HB25.out
        have KT5 := KT2.belowW HB25.out
        obtain ⟨Go, preI, hj1, hj2, hj3, hj4⟩ := hI.j
        have hGoG : ∀ k, Go k → G k := fun k hk => (hj3 k (.inl hk)).1
        have hGo1 : ∀ k, Go k → k < W1.heap.size := fun k hk => (hG k (hGoG k hk)).1
        have hst : Stays W.heap.size G W1 W5 := hst12.trans (Stays.of_below HB25.out)
        have hJ5 : J Go preI W5 := hJ _ _ _ _ hj1 (hst.mono (Nat.le_refl _) (fun k hk => (hj3 k hk).1))
        have hs5 := HB25.out.size
        have hitem : Pl.dumpOne at_ x.bs = (false, [], [], 5, at_) := by unfold Pl.dumpOne; rw [if_neg h8]
        have hgood : ItemGood (Pl.dump b) w.heap.size preI ⟨(false, [], [], 5, at_), none, 0, none, 0⟩ W5 := by
          refine ⟨⟨Pl.dumpOf (at_ + (x.bs.length : Int)) restL, ?_⟩, Kd.R_nil _ _ _ _ _, Kd.R_nil _ _ _ _ _⟩
          rw [HD.out, ← HX2.out, List.map_append, List.map_append, hj2, Pl.dumpOf_app, Pl.dumpOf_app, List.map_cons, List.map_nil, List.map_cons, List.map_nil]
          rw [Pl.lens_app]
          simp only [Pl.dumpOf, Pl.lens]
          rw [HAT.out, hitem, show 8 + (Pl.lens (List.map ChunkX.bs pre) + ((x.bs.length : Int) + 0)) = at_ + (x.bs.length : Int) by have := HAT.out; omega]
        have hhand : ∀ k, ItemHand ⟨(false, [], [], 5, at_), none, 0, none, 0⟩ k → W2.heap.size < k ∧ k < W5.heap.size := fun k hk => by rcases hk with hk | hk <;> cases hk
        obtain ⟨fn, tmps, assign, body, hy, hR⟩ := hY Go preI ⟨(false, [], [], 5, at_), none, 0, none, 0⟩ W5 hJ5 (fun k hk => ⟨by have := hGo1 k hk; omega, (hj4 k hk).2⟩) hgood (fun k hk => ⟨fun h => by have := hhand k hk; have := hGo1 k h; omega, (hhand k hk).2⟩)
        dsimp only [ItemX.encs, List.length_nil] at hy
        have HGD := Lib.hid hgood
        have HHD := Lib.hid hhand
        have HIM := Lib.hid hitem
        have HJ1 := Lib.hid hj2
        obtain ⟨kx1, kx2⟩ := KX5.cell
        have ky := KY5.cell.1 0
        have kt := KT5.cell.1 0
        have hY5 : W.heap.size < W5.heap.size := by omega
        clear hgood hhand hitem hj2 hst hj1 hJ5
        have hl0 := Pl.lens_nonneg (pre.map ChunkX.bs)
        have hat0 : 0 ≤ at_ := by have := HAT.out; omega
        have hat1 : at_ + (x.bs.length : Int) ≤ 1048600 := by
          have h1 := congrArg Pl.lens HX2.out
          rw [Pl.chunks_lens y.length y (Nat.le_refl _), List.map_append, Pl.lens_app, Pl.lens_app] at h1
          have h2 := Pl.lens_nonneg restL
          simp only [List.map_cons, List.map_nil, Pl.lens] at h1
          have := HAT.out
          have := HYL.out
          omega
        have hw1 : IntKind.i64.wrap (at_ + (x.bs.length : Int)) = at_ + (x.bs.length : Int) := IntWalk.i64_in _ (by omega)
        clear kx1 kx2
        subst hW5
        gi_wp2
        refine (yield_in hR).mono ?_
        rintro e w6 ⟨G6, hmv6, hgr6, (⟨rfl, hJ6⟩ | ⟨rfl, hJx6⟩)⟩
        · have hs6 := hmv6.size
          have hBtGo : ¬ Go (W.heap.size + 2) := fun h => (hj3 _ (.inl h)).2 rfl
          have KT6 : Blk w6 (W.heap.size + 2) #[.int .i64 at_] 3 := ⟨(hmv6.block _ (by omega) hBtGo).trans KT5.out⟩
          obtain ⟨kt1, kt2⟩ := KT6.cell
          have HG6 := Lib.hid hgr6
          have HM6 := Lib.hid hmv6
          have HJ6 := Lib.hid hJ6
          clear hgr6 hmv6 hJ6 hR hy ky kt
          gi_wp2
          have hG6 : ∀ k, G6 k → k < w6.heap.size ∧ ¬ Cap k ∧ (G k ∨ W1.heap.size ≤ k) ∧ k ≠ W.heap.size + 2 := fun k hk => by
            obtain ⟨h1, h2⟩ := HG6.out k hk
            rcases h2 with h2 | h2
            · exact ⟨h1, (hj4 k h2).2, .inl (hGoG k h2), (hj3 k (.inl h2)).2⟩
            · exact ⟨h1, fun hc => by have := hCw k hc; omega, .inr (by omega), by omega⟩
          have hhd : ∀ k, (∃ z ∈ preI ++ [⟨(false, [], [], 5, at_), none, 0, none, 0⟩], ItemHand z k) → (G k ∨ W1.heap.size ≤ k) ∧ k < w6.heap.size ∧ k ≠ W.heap.size + 2 := fun k hk => by
            obtain ⟨z, hz, hk⟩ := hk
            rcases List.mem_append.1 hz with hz | hz
            · have h1 := hj3 k (.inr ⟨z, hz, hk⟩)
              exact ⟨.inl h1.1, by have := (hG k h1.1).1; omega, h1.2⟩
            · rw [List.mem_singleton.1 hz] at hk
              have := HHD.out k hk
              exact ⟨.inr (by omega), by omega, by omega⟩
          have m2 : Moves Go W2 w6 := (Moves.of_below HB25.out).trans HM6.out (fun k hk h => h)
          have m3 : Moves G W2 (w6.setCell ⟨W.heap.size + 2, 0, none⟩ (.int .i64 (at_ + (x.bs.length : Int)))) := (m2.mono hGoG).trans (Moves.setCell w6 ⟨W.heap.size + 2, 0, none⟩ _ hI.g) (fun _ _ h => h)
          have hsz7 : (w6.setCell ⟨W.heap.size + 2, 0, none⟩ (.int .i64 (at_ + (x.bs.length : Int)))).heap.size = w6.heap.size := by simp
          refine ⟨fun k => G k ∨ (W1.heap.size ≤ k ∧ k < w6.heap.size), m3, fun k hk => ⟨by rw [hsz7]; exact hk.elim (fun h => by have := (hG k h).1; omega) (fun h => h.2), hk.elim .inl (fun h => .inr h.1)⟩, ⟨⟨G6, preI ++ [⟨(false, [], [], 5, at_), none, 0, none, 0⟩], hJ _ _ _ _ HJ6.out (Stays.set _ _ _ (by show W.heap.size ≤ W.heap.size + 2; omega) (fun h => h.elim (fun h => (hG6 _ h).2.2.2 rfl) (fun h => (hhd _ h).2.2 rfl))), ?_, fun k hk => ?_, fun k hk => ⟨by rw [hsz7]; exact (hG6 k hk).1, (hG6 k hk).2.1⟩⟩, ?_, ?_, .inl hI.g⟩⟩
          · rw [List.map_append, List.map_append, Pl.dumpOf_app, HJ1.out, List.map_cons, List.map_nil, List.map_cons, List.map_nil]
            simp only [Pl.dumpOf]
            rw [HAT.out, HIM.out]
          · rcases hk with hk | hk
            · obtain ⟨h1, _, h2, h3⟩ := hG6 k hk
              exact ⟨h2.elim .inl (fun h => .inr ⟨h, h1⟩), h3⟩
            · obtain ⟨h1, h2, h3⟩ := hhd k hk
              exact ⟨h1.elim .inl (fun h => .inr ⟨h, h2⟩), h3⟩
          · exact (hI.k.trans hmv12 (fun _ _ h => h)).trans (m3.mono (fun k hk => (hG k hk).2.1)) (fun _ _ h => h)
          · have h1 := KT6.set 0 (.int .i64 (at_ + (x.bs.length : Int))) rfl
            have h2 : 8 + Pl.lens ((pre ++ [x]).map ChunkX.bs) = (at_ + (x.bs.length : Int)) := by
              rw [List.map_append, Pl.lens_app]
              simp only [List.map_cons, List.map_nil, Pl.lens]
              have := HAT.out
              omega
            rw [h2]
            exact h1
        · gi_wp2
          have hs6 := hmv6.size
          refine ⟨fun k => G k ∨ (W1.heap.size ≤ k ∧ k < w6.heap.size), (((Moves.of_below HB25.out).trans hmv6 (fun k hk h => h)).mono hGoG), fun k hk => ⟨hk.elim (fun h => by have := (hG k h).1; omega) (fun h => h.2), hk.elim .inl (fun h => .inr h.1)⟩, rfl, G6, preI ++ [⟨(false, [], [], 5, at_), none, 0, none, 0⟩], hJx6, HGD.out.1, fun k hk => ?_⟩
          rcases hk with hk | ⟨z, hz, hk⟩
          · obtain ⟨h1, h2⟩ := hgr6 k hk
            rcases h2 with h2 | h2
            · exact .inl (hGoG k h2)
            · exact .inr ⟨by omega, h1⟩
          · rcases List.mem_append.1 hz with hz | hz
            · exact .inl (hj3 k (.inr ⟨z, hz, hk⟩)).1
            · rw [List.mem_singleton.1 hz] at hk
              have := HHD.out k hk
              exact .inr ⟨by omega, by omega⟩
  · rw [if_neg hh] at hva
    rw [decide_eq_false hh]
    have hdump : Pl.dump b = [(false, [], [], 100, 0)] := by unfold Pl.dump; rw [if_neg hh]
    have hgood : ItemGood (Pl.dump b) w.heap.size [] ⟨(false, [], [], 100, 0), none, 0, none, 0⟩ Wd := ⟨⟨[], by rw [hdump]; rfl⟩, Kd.R_nil _ _ _ _ _, Kd.R_nil _ _ _ _ _⟩
    obtain ⟨fn, tmps, assign, body, hy, hR⟩ := hY G0 [] ⟨(false, [], [], 100, 0), none, 0, none, 0⟩ Wd hJc (fun k hk => ⟨by have := (hG0 k hk).1; omega, (hG0 k hk).2⟩) hgood (fun k hk => by rcases hk with hk | hk <;> cases hk)
    dsimp only [ItemX.encs, List.length_nil] at hy
    have HDP := Lib.hid hdump
    obtain ⟨A1, c1, hva1⟩ := Kd.V_slice hva
    subst hva1
    clear hgood hh hva hdump
    gi_wp2
    refine (yield_in0 hR).mono ?_
    rintro e w6 ⟨G6, hmv6, hgr6, (⟨rfl, hJ6⟩ | ⟨rfl, hJx6⟩)⟩
    · gi_wp2
      refine ⟨_, results_none rfl _ _ _, ⟨_, rfl⟩, .inl ⟨_, G6, by rw [HDP.out]; rfl, hJ6⟩⟩
    · gi_wp2
      refine ⟨_, results_none rfl _ _ _, ⟨_, rfl⟩, .inr ⟨_, G6, ⟨[], by rw [HDP.out]; rfl⟩, hJx6⟩⟩
end Go.Proofs.Ytchbfeejpdfmhaa
