import Derived.Test.YtfppbkpdpapemaaDoorNames
import Derived.Test.YtfppbkpdpapemaaDoorRef11
/-! creelref14.Digits, creelref20.Names. -/
set_option linter.unusedSimpArgs false
set_option linter.unusedVariables false
namespace Go.Proofs.YtfppbkpdpapemaaDoor
open Go.RowKit Go.Proofs.YtfppbkpdpapemaaDoorW.PrintWords Go.Proofs.YtfppbkpdpapemaaDoorW.PrintLast Go.Proofs.YtfppbkpdpapemaaDoorW.PrintMore

abbrev cfgC2 (c : Pl.Cfg) : Array Value := #[.int .u8 (c.fmt.toNat : Int), .bool c.num, .bool c.skip, .bool c.both, .bool c.loops, .bool c.back, .int .i64 c.bud, .int .i64 c.fan, .int .i64 c.sha]

set_option maxRecDepth 100000 in
set_option maxHeartbeats 1000000 in
theorem rdigit_any (n : Nat) (hn : n < 10) (w : World) : Calls Tryd.prog 33 #[.int .i64 (n : Int)] w fun e w' => e = .returned (strV [UInt8.ofNat (48 + n)]) ∧ Below w.heap.size w w' := by
  have hd : decide ((9 : Int) < (n : Int)) = false := by simp; omega
  have hm : mx (n : Int) 0 = (n : Int) := by unfold mx; split <;> omega
  have hb : (48 : Int) + (n : Int) = ((UInt8.ofNat (48 + n)).toNat : Int) := by simp; omega
  have hcv : ∀ W : World, (convert 27 9 (.slice (some ⟨W.heap.size, 0, none⟩) 1 1)).run Tryd.prog (W.alloc (.cells #[.int .u8 ((48 : Int) + (n : Int))] 5)) = .ok (.string ⟨#[UInt8.ofNat (48 + n)]⟩) (W.alloc (.cells #[.int .u8 ((48 : Int) + (n : Int))] 5)) := fun W => by
    have hL := lit_own W W.heap.size [UInt8.ofNat (48 + n)] [.int .u8 ((48 : Int) + (n : Int))] (by rw [hb]; rfl) (Nat.le_refl _) (by simp)
    exact byte_string hL.rd
  clear hb
  go_enter Tryd.func33, Tryd.ntmps33
  go_wp2_with fail
  go_ret
  exact ⟨by rw [UInt8.ofNat_add]; rfl, below_alloc (Below.refl _ _) _⟩
set_option maxRecDepth 100000 in
set_option maxHeartbeats 1000000 in
theorem rdigits_any (n : Nat) (hn : n < 100) (w : World) : Calls Tryd.prog 33 #[.int .i64 (n : Int)] w fun e w' => e = .returned (strV (Pl.digs n)) ∧ Below w.heap.size w w' := by
  by_cases h9 : n < 10
  · rw [show Pl.digs n = [UInt8.ofNat (48 + n)] by rw [Pl.digs, if_pos h9]]
    exact rdigit_any n h9 w
  · have hd : decide ((9 : Int) < (n : Int)) = true := by simp; omega
    have HD := Lib.hid (show Pl.digs n = [UInt8.ofNat (48 + n / 10)] ++ [UInt8.ofNat (48 + n % 10)] by rw [Pl.digs, if_neg h9, List.singleton_append])
    go_enter Tryd.func33, Tryd.ntmps33
    go_wp2_with (first | (go_at_call 33; rw [show (n : Int) % 10 = ((n % 10 : Nat) : Int) by omega]; refine (rdigit_any (n % 10) (by omega) _).mono ?_; rintro e w7 ⟨rfl, hb7⟩) | (go_at_call 33; rw [show (n : Int) / 10 = ((n / 10 : Nat) : Int) by omega]; refine (rdigit_any (n / 10) (by omega) _).mono ?_; rintro e w6 ⟨rfl, hb6⟩))
    go_ret
    refine ⟨?_, bthen hb6 hb7⟩
    rw [HD.out]
    show Ending.returned (.string (⟨[48 + UInt8.ofNat (n / 10)].toArray⟩ ++ ⟨[48 + UInt8.ofNat (n % 10)].toArray⟩)) = _
    rw [str_app, UInt8.ofNat_add, UInt8.ofNat_add]
    rfl

set_option maxRecDepth 100000 in
set_option maxHeartbeats 2000000 in
theorem rnames20_any (c : Pl.Cfg) (w : World) : Calls Tryd.prog 17 #[cfgV c] w fun e w' => ∃ v', e = .returned v' ∧ Own kStr 9 w' w.heap.size v' (Pl.names c) ∧ Below w.heap.size w w' := by
  rcases hr : Pl.right c with _ | _
  · rw [Pl.names_wrong hr]
    have HR := Lib.hid hr
    clear hr
    go_enter Tryd.func17, Tryd.ntmps17
    go_wp2_with fail
    refine calls_at fun W1 hW1 => ?_
    have hb1 : Below w.heap.size w W1 := by rw [← hW1]; exact below_alloc (Below.refl _ _) _
    clear hW1
    refine (rright11_any c W1).mono ?_
    rintro e w2 ⟨rfl, hb2⟩
    rw [HR.out]
    have HB := Lib.hid (bthen hb1 hb2)
    clear hb1 hb2
    go_wp2_with fail
    go_ret
    exact ⟨_, rfl, Own.nil _ _ _ _, HB.out⟩
  · have hbd := Pl.right_bounds hr
    obtain ⟨n, hn⟩ : ∃ n : Nat, c.sha = (n : Int) := ⟨c.sha.toNat, by omega⟩
    obtain ⟨bk, hbk⟩ : ∃ bk, c.back = bk := ⟨_, rfl⟩
    have hnm : Pl.names c = [Pl.labelsN] ++ Pl.kindN [115, 46] n ++ (if bk then Pl.kindN [116, 46] n else []) := by
      rw [Pl.names_right hr]
      rw [← hbk]
      simp [Pl.namesOf, hn, Pl.kindN, Pl.labelsN]
    rw [hnm]
    have hn16 : n ≤ 16 := by omega
    have HR := Lib.hid hr
    have HSN := Lib.hid hn
    have HBB := Lib.hid hbk
    clear hr hnm hbd hn hbk
    go_enter Tryd.func17, Tryd.ntmps17
    go_wp2_with fail
    refine calls_at fun W1 hW1 => ?_
    have hb1 : Below w.heap.size w W1 := by rw [← hW1]; exact below_alloc (Below.refl _ _) _
    have hs1 : w.heap.size + 1 ≤ W1.heap.size := by rw [← hW1]; simp
    have K1 : Blk W1 w.heap.size (cfgC2 c) 23 := by rw [← hW1]; exact Blk.new _ _ _
    clear hW1
    refine (rright11_any c W1).mono ?_
    rintro e w2 ⟨rfl, hb2⟩
    rw [HR.out]
    have K2 := K1.belowW hb2
    have hb12 := bthen hb1 hb2
    have hs2 : w.heap.size + 1 ≤ w2.heap.size := by have := hb2.size; omega
    have k5 := K2.cell.1 5
    have k8 := K2.cell.1 8
    rw [show (cfgC2 c)[5]? = some (Value.bool c.back) from rfl, HBB.out] at k5
    rw [show (cfgC2 c)[8]? = some (Value.int .i64 c.sha) from rfl, HSN.out] at k8
    have HK5 := Lib.hid k5
    have HK8 := Lib.hid k8
    have HB12 := Lib.hid hb12
    have HOO := Lib.hid (lit_ownS w2 (w.heap.size + 1) [Pl.labelsN] [strV Pl.labelsN] rfl hs2 (by simp))
    have HBL := Lib.hid ((Below.refl (w.heap.size + 1) w2).alloc hs2 (.cells [strV Pl.labelsN].toArray 9))
    clear hb1 hb2 K1 HR K2 hb12
    go_wp2_with fail
    go_loopw [3, 4] (fun v i wr => ∃ k : Nat, i = .int .i64 (k : Int) ∧ Aside0 (k ≤ n) ∧ Aside0 (Own kStr 9 wr (w.heap.size + 1) v ([Pl.labelsN] ++ Pl.kindN [115, 46] k)) ∧ Aside0 (Below (w.heap.size + 1) w2 wr)) (fun _ i _ => n - (intOf i).toNat)
    case atStart => exact ⟨0, rfl, ⟨by omega⟩, ⟨HOO.out⟩, ⟨HBL.out⟩⟩
    case round =>
      obtain ⟨k, rfl, hk, HO, HB⟩ := hrel
      have hz8 := (HB.out.cell (p := ⟨w.heap.size, 8, none⟩) (by simp)).trans HK8.out
      have hsz := HB.out.size
      by_cases hlt : k < n
      · have hjl : ([Pl.labelsN] ++ Pl.kindN [115, 46] k).length ≤ 1000 := by rw [List.length_append, Pl.kindN_len]; simp; omega
        have hdl : (Pl.digs k).length ≤ 2 := by unfold Pl.digs; split <;> simp
        have hdk : decide ((k : Int) < (n : Int)) = true := by simp; omega
        have HZ8 := Lib.hid hz8
        go_wp2_with (first | (go_at_call 33; refine (rdigits_any k (by omega) _).mono ?_; rintro e w6 ⟨rfl, hb6⟩) | ((with_reducible refine gate_builtin (b := .append) (xs := #[.tmp 16, .tmp 20]) rfl ?_); at_builtin; refine appS (w0 := w2) (w.heap.size + 1) rfl (.tmp 16) (.tmp 20) rfl _ ([Pl.labelsN] ++ Pl.kindN [115, 46] k) ([115, 46] ++ Pl.digs k) _ ?hu rfl rfl (HO.out.below hb6) (HB.out.trans (hb6.mono (by omega))) (by have := hb6.size; omega) (by omega) ?_; (case hu => rw [str_app]); intro v5 w5 ho5 hb5 hg5 hat5; rw [List.append_assoc, ← Pl.kindN_succ] at ho5; have HO5 := Lib.hid ho5; have HB5 := Lib.hid hb5; clear ho5 hb5 hg5 hat5))
        go_roundw
        case rel => exact ⟨k + 1, by go_num, ⟨by omega⟩, ⟨HO5.out⟩, ⟨HB5.out⟩⟩
        case measure => simp [intOf]; omega
      · obtain rfl : k = n := by have := hk.out; omega
        have hdk : decide ((k : Int) < (k : Int)) = false := by simp
        go_wp2_with fail
        obtain ⟨M, hM⟩ : ∃ M, [Pl.labelsN] ++ Pl.kindN [115, 46] k = M := ⟨_, rfl⟩
        have hMl : M.length ≤ 20 := by rw [← hM, List.length_append, Pl.kindN_len]; simp; omega
        rw [hM] at HO
        have HM := Lib.hid hM
        obtain ⟨wo, hwo⟩ : ∃ wo : World, wo = wr := ⟨_, rfl⟩
        have HO2 := Lib.hid HO.out
        have HB2 := Lib.hid HB.out
        rw [← hwo] at HO2 HB2 hz8 hsz ⊢
        clear hM hdk hlt HO HB hwo
        go_loopw [3, 5] (fun v i wr => ∃ j : Nat, i = .int .i64 (j : Int) ∧ Aside0 (j ≤ k ∧ (j = 0 ∨ bk = true)) ∧ Aside0 (Own kStr 9 wr (w.heap.size + 1) v (M ++ Pl.kindN [116, 46] j)) ∧ Aside0 (Below (w.heap.size + 1) w2 wr)) (fun _ i _ => k - (intOf i).toNat)
        case atStart => exact ⟨0, rfl, ⟨by omega, .inl rfl⟩, ⟨by simpa [Pl.kindN] using HO2.out⟩, ⟨HB2.out⟩⟩
        case round =>
          obtain ⟨j, rfl, hj, HO, HB⟩ := hrel
          have hz8 := (HB.out.cell (p := ⟨w.heap.size, 8, none⟩) (by simp)).trans HK8.out
          have hz5 := (HB.out.cell (p := ⟨w.heap.size, 5, none⟩) (by simp)).trans HK5.out
          have hsz := HB.out.size
          have hj1 := hj.out.1
          by_cases hlt : j < k
          · have hdk : decide ((j : Int) < (k : Int)) = true := by simp; omega
            cases bk
            · have hj0 : j = 0 := by have := hj.out.2; simpa using this
              have HJ0 := Lib.hid hj0
              clear hj0
              go_wp2_with fail
              go_ret
              refine ⟨_, rfl, ?_, HB12.out.trans (HB.out.mono (by omega))⟩
              have hown := HO.out.lower (b := w.heap.size) (by omega)
              rw [HJ0.out, ← HM.out] at hown
              simpa [Pl.kindN] using hown
            · have hjl : (M ++ Pl.kindN [116, 46] j).length ≤ 1000 := by rw [List.length_append, Pl.kindN_len]; omega
              have hdl : (Pl.digs j).length ≤ 2 := by unfold Pl.digs; split <;> simp
              go_wp2_with (first | (go_at_call 33; refine (rdigits_any j (by omega) _).mono ?_; rintro e w6 ⟨rfl, hb6⟩) | ((with_reducible refine gate_builtin (b := .append) (xs := #[.tmp 32, .tmp 36]) rfl ?_); at_builtin; refine appS (w0 := w2) (w.heap.size + 1) rfl (.tmp 32) (.tmp 36) rfl _ (M ++ Pl.kindN [116, 46] j) ([116, 46] ++ Pl.digs j) _ ?hu rfl rfl (HO.out.below hb6) (HB.out.trans (hb6.mono (by omega))) (by have := hb6.size; omega) (by omega) ?_; (case hu => rw [str_app]); intro v5 w5 ho5 hb5 hg5 hat5; rw [List.append_assoc, ← Pl.kindN_succ] at ho5; have HO5 := Lib.hid ho5; have HB5 := Lib.hid hb5; clear ho5 hb5 hg5 hat5))
              go_roundw
              case rel => exact ⟨j + 1, by go_num, ⟨by omega, by simp⟩, ⟨HO5.out⟩, ⟨HB5.out⟩⟩
              case measure => simp [intOf]; omega
          · obtain rfl : j = k := by omega
            have hdk : decide ((j : Int) < (j : Int)) = false := by simp
            have h2 := hj.out.2
            cases bk
            · have hj0 : j = 0 := by simpa using h2
              subst hj0
              go_wp2_with fail
              go_ret
              refine ⟨_, rfl, ?_, HB12.out.trans (HB.out.mono (by omega))⟩
              have hown := HO.out.lower (b := w.heap.size) (by omega)
              rw [← HM.out] at hown
              simpa [Pl.kindN] using hown
            · clear h2
              go_wp2_with fail
              go_ret
              refine ⟨_, rfl, ?_, HB12.out.trans (HB.out.mono (by omega))⟩
              have hown := HO.out.lower (b := w.heap.size) (by omega)
              rw [← HM.out] at hown
              simpa using hown
end Go.Proofs.YtfppbkpdpapemaaDoor
