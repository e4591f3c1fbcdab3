import Derived.Test.YtjdcejbblcbjpaaDoorPlain3
import Derived.Test.YtjdcejbblcbjpaaDoorBase
import Derived.Laws.BitsAllLaws
/-! vary.Unfix, creelref01.Unfix, at four bytes. -/
set_option linter.unusedSimpArgs false
set_option linter.unusedVariables false
namespace Go.Proofs.YtjdcejbblcbjpaaDoor
open Go.RowKit Go.Proofs.YtjdcejbblcbjpaaDoorW.PrintWords Go.Proofs.YtjdcejbblcbjpaaDoorW.PrintLast Go.Proofs.YtjdcejbblcbjpaaDoorW.PrintMore

namespace Pl
theorem unfixB_snoc (l : List UInt8) (c : UInt8) : unfixB (l ++ [c]) = unfixB l * 256 + c.toNat := by
  simp [unfixB, List.foldl_append]
theorem unfixB_lt (l : List UInt8) : unfixB l < 256 ^ l.length := by
  have gen : ∀ (l : List UInt8) (m : Nat), l.foldl (fun n c => n * 256 + c.toNat) m + 1 ≤ (m + 1) * 256 ^ l.length := by
    intro l
    induction l with
    | nil => intro m; simp
    | cons c l ih =>
      intro m
      simp only [List.foldl_cons, List.length_cons]
      refine Nat.le_trans (ih _) ?_
      rw [Nat.pow_succ, Nat.mul_comm (256 ^ l.length), ← Nat.mul_assoc]
      refine Nat.mul_le_mul_right _ ?_
      have := c.toNat_lt
      omega
  have := gen l 0
  unfold unfixB
  omega
theorem unfixB_take (x : List UInt8) (k : Nat) (h : k < x.length) : unfixB (x.take (k + 1)) = unfixB (x.take k) * 256 + (x.getD k 0).toNat := by
  rw [List.take_add_one, List.getElem?_eq_getElem h, Option.toList_some, unfixB_snoc]
  simp [List.getD, h]
theorem or_add (N c : Nat) (hc : c < 256) : N * 256 ||| c = N * 256 + c := by
  have := Nat.shiftLeft_add_eq_or_of_lt (i := 8) (b := c) hc N
  rw [Nat.shiftLeft_eq] at this
  exact this.symm
theorem unfix_or (N : Nat) (c : UInt8) (hN : N < 72057594037927936) : bits .or .u64 (IntKind.u64.wrap ((N : Int) * 256)) (IntKind.u64.wrap (c.toNat : Int)) = ((N * 256 + c.toNat : Nat) : Int) := by
  have hc := c.toNat_lt
  have e1 : IntKind.u64.wrap ((N : Int) * 256) = ((N * 256 : Nat) : Int) := by rw [IntWalk.u64_in _ (by omega)]; omega
  have e2 : IntKind.u64.wrap (c.toNat : Int) = (c.toNat : Int) := IntWalk.u64_in _ (by omega)
  rw [e1, e2, u64_or_nat _ _ (by omega) (by omega), or_add _ _ hc]
theorem unfix_or' (N : Nat) (c : UInt8) (hN : N < 72057594037927936) : bits .or .u64 ((N : Int) * 256) (IntKind.u64.wrap (c.toNat : Int)) = ((N * 256 + c.toNat : Nat) : Int) := by
  have e1 : IntKind.u64.wrap ((N : Int) * 256) = (N : Int) * 256 := IntWalk.u64_in _ (by omega)
  have := unfix_or N c hN
  rwa [e1] at this
theorem unfix_add (N : Nat) (c : UInt8) (hN : N < 72057594037927936) : IntKind.u64.wrap (IntKind.u64.wrap ((N : Int) * 256) + IntKind.u64.wrap (c.toNat : Int)) = ((N * 256 + c.toNat : Nat) : Int) := by
  have hc := c.toNat_lt
  have e1 : IntKind.u64.wrap ((N : Int) * 256) = ((N * 256 : Nat) : Int) := by rw [IntWalk.u64_in _ (by omega)]; omega
  have e2 : IntKind.u64.wrap (c.toNat : Int) = (c.toNat : Int) := IntWalk.u64_in _ (by omega)
  rw [e1, e2, IntWalk.u64_in _ (by omega)]
  omega
end Pl

section
variable {ops : Array Oper} {rest : List Oper} {o : Oper} {a : Act} {Q : Exit → Act → World → Prop} {w0 W : World}
/-- append(v, ys...) of bytes, up to the model's end. -/
theorem appNB (base : Nat) (hgd : o.guard = none) (s x : Operand) (ho : o.op = .call { callee := .builtin .append, args := #[s, x], argTypes := #[22, 22] })
    (v u : Value) (xs ys : List UInt8) (hs : a.eval s = v) (hx : a.eval x = u)
    (HO : Own kb 5 W base v xs) (HR : Rd kb W u ys) (HB : Below base w0 W) (hbase : base ≤ W.heap.size) (hl : xs.length + ys.length ≤ 140737488355328)
    (h : ∀ v1 w1, Own kb 5 w1 base v1 (xs ++ ys) → Below base w0 w1 → W.grownBy w1 v.ownBlock → (v1.ownBlock = v.ownBlock ∨ ∃ b, v1.ownBlock = some b ∧ W.heap.size ≤ b) → wpList Tryd.prog ops Q rest (a.put o.dst v1) w1) :
    wpList Tryd.prog ops Q (o :: rest) a W := by
  obtain ⟨A, c, rfl, hc, hF⟩ := HR
  exact Kd.R_append_rows kb base hgd s x 22 5 (.int .u8 0) 1 ho Tryd.underlying22 infoByte rfl (by decide) (by omega) v xs ys A ys.length c _ (fun _ => False) hs hx (own_R HO) (Kd.F_now hF) (fun _ _ h => h) (fun _ h => h.elim) (fun k hk => Nat.le_trans hbase hk) HB hbase (by omega) (fun v1 w1 h1 => h v1 w1 (Kd.R_N h1))
end
set_option maxRecDepth 100000 in
set_option maxHeartbeats 2000000 in
theorem unfix_all (v : Value) (b : List UInt8) (w : World) (hv : Rd kb w v b) (hl : b.length ≤ 140737488355328) :
    Calls Tryd.prog 34 #[v, .int .i64 4] w fun e w' => ∃ v' : Value, e = .returned (.tuple #[.int .u64 (if b.length < 4 then 0 else (Pl.unfixB (b.take 4) : Int)), v', .int .i64 (if b.length < 4 then 5 else 0)]) ∧ Own kb 5 w' w.heap.size v' (if b.length < 4 then [] else b.drop 4) ∧ Below w.heap.size w w' := by
  have HR := Lib.hid hv
  obtain ⟨A, c, rfl, hc, hF⟩ := hv
  by_cases h4 : b.length < 4
  · simp only [if_pos h4]
    have h5 : decide ((b.length : Int) < 4) = true := by simp; omega
    have H4 := Lib.hid h4
    clear h4 hF
    go_enter Tryd.func34, Tryd.ntmps34
    go_wp2_with fail
    refine bodyPost_ret (v := .tuple #[.int .u64 0, .slice none 0 0, .int .i64 5]) (by simp [results, Tryd.results34, Tryd.f34, go_sem]) rfl ?_
    exact ⟨_, rfl, Own.nil _ _ _ _, Below.refl _ _⟩
  · simp only [if_neg h4]
    have h5 : decide ((b.length : Int) < 4) = false := by simp; omega
    have H4 := Lib.hid h4
    obtain ⟨hcut, hV⟩ := byte_to hF hc 4 (by omega)
    replace hcut := hcut .i64 4 rfl
    obtain ⟨A2, hcut2, hV2⟩ := byte_from hF hc 4 (by omega)
    replace hcut2 := hcut2 .i64 4 rfl
    have HV := Lib.hid (Kd.V_mono hV fun _ _ => trivial : Rd kb w _ _)
    have HV2 := Lib.hid (Kd.V_mono hV2 fun _ _ => trivial : Rd kb w _ _)
    obtain ⟨x, hx⟩ : ∃ x, b.take 4 = x := ⟨_, rfl⟩
    obtain ⟨y, hy⟩ : ∃ y, b.drop 4 = y := ⟨_, rfl⟩
    have hxl : x.length = 4 := by rw [← hx]; simp; omega
    have hyl : y.length = b.length - 4 := by rw [← hy]; simp
    rw [hx] at HV
    rw [hy, ← hyl] at HV2
    rw [← hyl] at hcut2
    have HXL := Lib.hid hxl
    have HX := Lib.hid hx
    have HY := Lib.hid hy
    have hyb : y.length ≤ 140737488355328 := by omega
    clear hV hV2 hF hx hy hxl h4 hyl
    go_enter Tryd.func34, Tryd.ntmps34
    go_wp2_with fail
    go_loop [7, 26] (fun n i => ∃ k : Nat, n = .int .u64 (Pl.unfixB (x.take k) : Int) ∧ i = .int .i64 (k : Int) ∧ Aside0 (k ≤ 4)) (fun _ i => 4 - (intOf i).toNat)
    case atStart => exact ⟨0, rfl, rfl, ⟨by omega⟩⟩
    case round =>
      obtain ⟨k, rfl, rfl, hk⟩ := hrel
      by_cases hlt : k < 4
      · obtain ⟨ad, had, hce⟩ := kb_cell (Kd.V_at HV.out).2.2 k (by rw [HXL.out]; exact hlt)
        subst had
        obtain ⟨ch, hch⟩ : ∃ d, x.getD k 0 = d := ⟨_, rfl⟩
        rw [hch] at hce
        have hd : decide ((k : Int) < 4) = true := by simp; omega
        have q1 : (0 : Int) ≤ (k : Int) := by omega
        have q2 : (k : Int) < 4 := by omega
        obtain ⟨N, hN⟩ : ∃ N, Pl.unfixB (x.take k) = N := ⟨_, rfl⟩
        rw [hN]
        have hNl : N < 72057594037927936 := by
          have h1 := Pl.unfixB_lt (x.take k)
          have h2 : (x.take k).length ≤ 3 := by simp; omega
          have h3 := Nat.pow_le_pow_right (show 0 < 256 by omega) h2
          rw [hN] at h1
          omega
        have HST := Lib.hid (show Pl.unfixB (x.take (k + 1)) = N * 256 + ch.toNat by rw [Pl.unfixB_take x k (by rw [HXL.out]; exact hlt), hN, hch])
        clear hN hch
        go_wp2_with fail
        go_round
        case rel => exact ⟨k + 1, by rw [HST.out]; first | rw [Pl.unfix_or N ch hNl] | rw [Pl.unfix_or' N ch hNl], by go_num, ⟨by omega⟩⟩
        case measure => simp [intOf]; omega
      · obtain rfl : k = 4 := by have := hk.out; omega
        have hd : decide ((4 : Int) < 4) = false := by simp
        have HX4 := Lib.hid (show x.take 4 = x from List.take_of_length_le (by rw [HXL.out]; exact Nat.le_refl _))
        go_wp2_with (go_at_call 22; refine (clone_any _ _ _ HV2.out (by omega)).mono ?_; rintro e w2 ⟨v2, rfl, ho2, hb2⟩)
        refine bodyPost_ret (v := .tuple #[.int .u64 (Pl.unfixB (x.take 4) : Int), v2, .int .i64 0]) (by simp [results, Tryd.results34, Tryd.f34, go_sem]) rfl ?_
        rw [HX.out, HY.out]
        exact ⟨_, by rw [HX4.out], ho2, hb2⟩

theorem unfix_any (v : Value) (b : List UInt8) (w : World) (hv : Rd kb w v b) (hl : b.length ≤ 1048576) :
    Calls Tryd.prog 34 #[v, .int .i64 4] w fun e w' => ∃ v' : Value, e = .returned (.tuple #[.int .u64 (if b.length < 4 then 0 else (Pl.unfixB (b.take 4) : Int)), v', .int .i64 (if b.length < 4 then 5 else 0)]) ∧ Own kb 5 w' w.heap.size v' (if b.length < 4 then [] else b.drop 4) ∧ Below w.heap.size w w' := unfix_all v b w hv (by omega)
theorem lit0d (W : World) : Own kb 5 (W.alloc (.cells #[] 5)) W.heap.size (.slice (some ⟨W.heap.size, 0, none⟩) 0 0) [] := lit_own W W.heap.size [] [] rfl (Nat.le_refl _) (by simp)
set_option maxRecDepth 100000 in
set_option maxHeartbeats 2000000 in
theorem runfix_all (v : Value) (b : List UInt8) (w : World) (hv : Rd kb w v b) (hl : b.length ≤ 140737488355328) :
    Calls Tryd.prog 38 #[v, .int .i64 4] w fun e w' => ∃ v' : Value, e = .returned (.tuple #[.int .u64 (if b.length < 4 then 0 else (Pl.unfixB (b.take 4) : Int)), v', .int .i64 (if b.length < 4 then 5 else 0)]) ∧ Own kb 5 w' w.heap.size v' (if b.length < 4 then [] else b.drop 4) ∧ Below w.heap.size w w' := by
  have HR := Lib.hid hv
  obtain ⟨A, c, rfl, hc, hF⟩ := hv
  by_cases h4 : b.length < 4
  · simp only [if_pos h4]
    have h5 : decide ((b.length : Int) < 4) = true := by simp; omega
    have H4 := Lib.hid h4
    clear h4 hF
    go_enter Tryd.func38, Tryd.ntmps38
    go_wp2_with fail
    refine bodyPost_ret (v := .tuple #[.int .u64 0, .slice none 0 0, .int .i64 5]) (by simp [results, Tryd.results38, Tryd.f38, go_sem]) rfl ?_
    exact ⟨_, rfl, Own.nil _ _ _ _, Below.refl _ _⟩
  · simp only [if_neg h4]
    have h5 : decide ((b.length : Int) < 4) = false := by simp; omega
    have H4 := Lib.hid h4
    obtain ⟨A2, hcut2, hV2⟩ := byte_from hF hc 4 (by omega)
    replace hcut2 := hcut2 .i64 4 rfl
    have HV2 := Lib.hid (Kd.V_mono hV2 fun _ _ => trivial : Rd kb w _ _)
    have HFb := Lib.hid hF
    obtain ⟨x, hx⟩ : ∃ x, b.take 4 = x := ⟨_, rfl⟩
    obtain ⟨y, hy⟩ : ∃ y, b.drop 4 = y := ⟨_, rfl⟩
    have hxl : x.length = 4 := by rw [← hx]; simp; omega
    have hyl : y.length = b.length - 4 := by rw [← hy]; simp
    rw [hy, ← hyl] at HV2
    rw [← hyl] at hcut2
    have HXL := Lib.hid hxl
    have HX := Lib.hid hx
    have HY := Lib.hid hy
    have hyb : y.length ≤ 140737488355328 := by omega
    clear hV2 hF hx hy hxl hyl
    go_enter Tryd.func38, Tryd.ntmps38
    go_wp2_with fail
    go_loop [7, 8] (fun n i => ∃ k : Nat, n = .int .u64 (Pl.unfixB (x.take k) : Int) ∧ i = .int .i64 (k : Int) ∧ Aside0 (k ≤ 4)) (fun _ i => 4 - (intOf i).toNat)
    case atStart => exact ⟨0, rfl, rfl, ⟨by omega⟩⟩
    case round =>
      obtain ⟨k, rfl, rfl, hk⟩ := hrel
      by_cases hlt : k < 4
      · obtain ⟨ad, had, hce⟩ := kb_cell HFb.out k (by omega)
        subst had
        obtain ⟨ch, hch⟩ : ∃ d, b.getD k 0 = d := ⟨_, rfl⟩
        rw [hch] at hce
        have hd : decide ((k : Int) < 4) = true := by simp; omega
        have q1 : (0 : Int) ≤ (k : Int) := by omega
        have q2 : (k : Int) < (b.length : Int) := by omega
        obtain ⟨N, hN⟩ : ∃ N, Pl.unfixB (x.take k) = N := ⟨_, rfl⟩
        rw [hN]
        have hNl : N < 72057594037927936 := by
          have h1 := Pl.unfixB_lt (x.take k)
          have h2 : (x.take k).length ≤ 3 := by simp; omega
          have h3 := Nat.pow_le_pow_right (show 0 < 256 by omega) h2
          rw [hN] at h1
          omega
        have hxk : x.getD k 0 = ch := by
          rw [← HX.out, ← hch]
          simp only [List.getD, List.getElem?_take]
          rw [if_pos hlt]
        have HST := Lib.hid (show Pl.unfixB (x.take (k + 1)) = N * 256 + ch.toNat by rw [Pl.unfixB_take x k (by rw [HXL.out]; exact hlt), hN, hxk])
        have hadd := Pl.unfix_add N ch hNl
        have e1 : IntKind.u64.wrap ((N : Int) * 256) = (N : Int) * 256 := IntWalk.u64_in _ (by omega)
        have e2 : IntKind.u64.wrap (ch.toNat : Int) = (ch.toNat : Int) := IntWalk.u64_in _ (by have := ch.toNat_lt; omega)
        have e3 : IntKind.u64.wrap ((N : Int) * 256 + (ch.toNat : Int)) = (N : Int) * 256 + (ch.toNat : Int) := IntWalk.u64_in _ (by have := ch.toNat_lt; omega)
        clear hN hch hxk hadd
        go_wp2_with fail
        go_round
        case rel => exact ⟨k + 1, by rw [HST.out]; congr 1 <;> omega, by go_num, ⟨by omega⟩⟩
        case measure => simp [intOf]; omega
      · obtain rfl : k = 4 := by have := hk.out; omega
        have hd : decide ((4 : Int) < 4) = false := by simp
        have HX4 := Lib.hid (show x.take 4 = x from List.take_of_length_le (by rw [HXL.out]; exact Nat.le_refl _))
        go_wp2_with ((with_reducible refine gate_builtin (b := .append) (xs := #[.tmp 33, .tmp 36]) rfl ?_); at_builtin; refine appNB (w0 := w) w.heap.size rfl (.tmp 33) (.tmp 36) rfl _ _ [] y rfl rfl (lit0d w) (Rd.below HV2.out (below_alloc (Below.refl _ _) _)) (below_alloc (Below.refl _ _) _) (by simp) ?_ ?_; (first | omega | (simp; omega)); intro v2 w2 ho2 hb2 hg5 hat5; rw [List.nil_append] at ho2)
        refine bodyPost_ret (v := .tuple #[.int .u64 (Pl.unfixB (x.take 4) : Int), v2, .int .i64 0]) (by simp [results, Tryd.results38, Tryd.f38, go_sem]) rfl ?_
        rw [HX.out, HY.out]
        exact ⟨_, by rw [HX4.out], ho2, hb2⟩
theorem runfix_any (v : Value) (b : List UInt8) (w : World) (hv : Rd kb w v b) (hl : b.length ≤ 1048576) :
    Calls Tryd.prog 38 #[v, .int .i64 4] w fun e w' => ∃ v' : Value, e = .returned (.tuple #[.int .u64 (if b.length < 4 then 0 else (Pl.unfixB (b.take 4) : Int)), v', .int .i64 (if b.length < 4 then 5 else 0)]) ∧ Own kb 5 w' w.heap.size v' (if b.length < 4 then [] else b.drop 4) ∧ Below w.heap.size w w' := runfix_all v b w hv (by omega)
end Go.Proofs.YtjdcejbblcbjpaaDoor
