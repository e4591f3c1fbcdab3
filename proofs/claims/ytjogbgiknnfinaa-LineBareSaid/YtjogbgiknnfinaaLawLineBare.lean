import Derived.Test.YtjogbgiknnfinaaLaw7
import Derived.Test.YtjogbgiknnfinaaBare
/-! The law LineBare, walked. -/
set_option linter.unusedSimpArgs false
set_option linter.unusedVariables false
namespace Go.Proofs.Ytjogbgiknnfinaa
open Go.RowKit Go.Proofs.YtjogbgiknnfinaaW.PrintWords Go.Proofs.YtjogbgiknnfinaaW.PrintLast Go.Proofs.YtjogbgiknnfinaaW.PrintMore
attribute [local go_sem] max2_int min2_int max_two min_two

namespace Pl
theorem bare_skip (g x : List UInt8) (h : ∀ c ∈ g, isBl c = true) : bare (g ++ x) = bare x := by
  unfold bare
  induction g with
  | nil => rfl
  | cons c g ih =>
    rw [List.cons_append, List.dropWhile_cons, if_pos (h c (by simp))]
    exact ih (fun d hd => h d (by simp [hd]))
theorem bare_note (g x : List UInt8) (h : ∀ c ∈ g, isBl c = true) : bare (g ++ [35] ++ x) = true := by
  rw [List.append_assoc, bare_skip g _ h]
  rfl
theorem bare_word (g x : List UInt8) (h : ∀ c ∈ g, isBl c = true) : bare (g ++ [119] ++ x) = false := by
  rw [List.append_assoc, bare_skip g _ h]
  rfl
theorem bare_none (g : List UInt8) (h : ∀ c ∈ g, isBl c = true) : bare g = true := by
  have := bare_skip g [] h
  rw [List.append_nil] at this
  exact this
def aheadB (i : Nat) : UInt8 := if i % 2 = 0 then 32 else 9
def ahead (k : Nat) : List UInt8 := (List.range k).map aheadB
theorem ahead_len (k : Nat) : (ahead k).length = k := by simp [ahead]
theorem ahead_bl (k : Nat) : ∀ c ∈ ahead k, isBl c = true := by
  intro c hc
  obtain ⟨i, _, rfl⟩ := List.mem_map.1 hc
  unfold aheadB
  split <;> decide
theorem aheadStep (k m : Nat) (h : k < m) : (ahead k ++ List.replicate (m - k) (0 : UInt8)).set k (aheadB k) = ahead (k + 1) ++ List.replicate (m - (k + 1)) 0 := by
  have hl : (ahead k).length = k := ahead_len k
  rw [List.set_append_right _ _ (by omega), hl, Nat.sub_self, show m - k = (m - (k + 1)) + 1 by omega, List.replicate_succ, List.set_cons_zero]
  simp only [ahead, List.range_succ, List.map_append, List.append_assoc]
  rfl
end Pl

theorem lit0 (W : World) : Own kb 5 (W.alloc (.cells #[] 5)) W.heap.size (.slice (some ⟨W.heap.size, 0, none⟩) 0 0) [] := lit_own W W.heap.size [] [] rfl (Nat.le_refl _) (by simp)
set_option maxRecDepth 100000 in
set_option maxHeartbeats 4000000 in
theorem lineBare_walk (v : Value) (b : List UInt8) (n : Int) (w : World) (hv : Rd kb w v b) (_ : b.length ≤ 140737488351232) (hn0 : 0 ≤ n) (hn1 : n ≤ 255) :
    Calls Try.prog 11 #[v, .int .u8 n] w fun e w' => e = .returned (.bool true) ∧ Below w.heap.size w w' := by
  obtain ⟨m0, rfl⟩ := Int.eq_ofNat_of_zero_le hn0
  have HR := Lib.hid hv
  obtain ⟨A, c, rfl, hc, hF⟩ := hv
  obtain ⟨m, hm⟩ : ∃ m, min b.length 200 = m := ⟨_, rfl⟩
  obtain ⟨hcut, hV⟩ := byte_to hF hc m (by omega)
  replace hcut := hcut .i64 (m : Int) rfl
  have hif : (if (200 : Int) < (b.length : Int) then (200 : Int) else (b.length : Int)) = (m : Int) := by split <;> omega
  have hmb : m ≤ b.length := by omega
  have hm2 : m ≤ 200 := by omega
  have hmx := Kd.F_max hF
  obtain ⟨x, hx⟩ : ∃ x, b.take m = x := ⟨_, rfl⟩
  have hxl : x.length = m := by rw [← hx]; simp; omega
  rw [hx] at hV
  have HV := Lib.hid hV
  have HXL := Lib.hid hxl
  clear hV hF hx hm hxl
  go_enter Try.func11, Try.ntmps11
  have hmm : (m0 : Int) % 9 = ((m0 % 9 : Nat) : Int) := by omega
  have HMM := Lib.hid hmm
  clear hmm
  go_wp2_with (first | (go_at_call 20; refine (shown07_any _).mono ?_; rintro e w1 ⟨rfl, hb1⟩; have HB1 := Lib.hid hb1; clear hb1) | ((with_reducible refine gate_dst (N := 21) rfl ?_); refine mkB (w0 := w1) w1.heap.size rfl rfl (.tmp 20) (.tmp 20) rfl (m0 % 9) (by rw [← HMM.out]; rfl) (by rw [← HMM.out]; rfl) (by omega) (Below.refl _ _) (Nat.le_refl _) ?_; intro v4 w4 ho4 hb4 hg4; obtain ⟨A4, c4, hv4⟩ := Kd.N_slice ho4; rw [List.length_replicate] at hv4; subst hv4; have HO4 := Lib.hid ho4; have HB4 := Lib.hid hb4; clear ho4 hb4 hg4))
  obtain ⟨M, hM⟩ : ∃ M, m0 % 9 = M := ⟨_, rfl⟩
  have hM8 : M ≤ 8 := by omega
  rw [HMM.out] at *
  rw [hM] at HO4 ⊢
  clear HMM hM hcut hif
  go_loopw [24] (fun i wr => ∃ k : Nat, i = .int .i64 (k : Int) ∧ Aside0 (k ≤ M) ∧ Aside0 (Own kb 5 wr w1.heap.size (.slice A4 M c4) (Pl.ahead k ++ List.replicate (M - k) 0)) ∧ Aside0 (Below w1.heap.size w1 wr)) (fun i _ => M - (intOf i).toNat)
  case atStart => exact ⟨0, rfl, ⟨by omega⟩, ⟨by simpa [Pl.ahead] using HO4.out⟩, ⟨HB4.out⟩⟩
  case round =>
    obtain ⟨k, rfl, hk, HO, HB⟩ := hrel
    by_cases hlt : k < M
    · have hlen : (Pl.ahead k ++ List.replicate (M - k) (0 : UInt8)).length = M := by simp [Pl.ahead_len]; omega
      obtain ⟨g, cap, hvg, hg1, hgw⟩ := own_form HO.out (by rw [hlen]; omega)
      injection hvg with hvg1 hvg3 hvg2
      clear hvg3
      subst hvg1 hvg2
      obtain ⟨hce, hcf⟩ := own_cell HO.out k (by rw [hlen]; exact hlt)
      obtain ⟨ch, hch⟩ : ∃ d, (Pl.ahead k ++ List.replicate (M - k) (0 : UInt8)).getD k 0 = d := ⟨_, rfl⟩
      rw [hch] at hce
      have Hst := Lib.hid (Pl.aheadStep k M hlt)
      have hgn : wr.heap.size ≠ g := by omega
      clear hch hlen
      have hd : decide ((k : Int) < (M : Int)) = true := by simp; omega
      rcases Nat.mod_two_eq_zero_or_one k with h2 | h2
      · have hgb := Lib.hid (show Pl.aheadB k = 32 by unfold Pl.aheadB; rw [if_pos h2])
        have h3 : (k : Int) % 2 = 0 := by omega
        clear h2
        go_wp2
        go_roundw
        case rel => exact ⟨k + 1, by go_num, ⟨by omega⟩, ⟨by rw [← Hst.out, hgb.out]; exact (own_put HO.out k 32).alloc _⟩, ⟨(HB.out.setCell (p := ⟨g, k, none⟩) hg1 _).alloc (by simp; exact HB.out.size) _⟩⟩
        case measure => simp [intOf]; omega
      · have hgb := Lib.hid (show Pl.aheadB k = 9 by unfold Pl.aheadB; rw [if_neg (by omega)])
        have h3 : (k : Int) % 2 = 1 := by omega
        clear h2
        go_wp2
        go_roundw
        case rel => exact ⟨k + 1, by go_num, ⟨by omega⟩, ⟨by rw [← Hst.out, hgb.out]; exact (own_put HO.out k 9).alloc _⟩, ⟨(HB.out.setCell (p := ⟨g, k, none⟩) hg1 _).alloc (by simp; exact HB.out.size) _⟩⟩
        case measure => simp [intOf]; omega
    · obtain rfl : k = M := by have := hk.out; omega
      have hd : decide ((k : Int) < (k : Int)) = false := by simp
      have HGo := HO.out.rd
      rw [Nat.sub_self, List.replicate_zero, List.append_nil] at HGo
      have HG := Lib.hid HGo
      have hgbl := Lib.hid (Pl.ahead_bl k)
      have hgl := Lib.hid (Pl.ahead_len k)
      obtain ⟨gg, hgg⟩ : ∃ x, Pl.ahead k = x := ⟨_, rfl⟩
      rw [hgg] at HG hgl hgbl
      clear hgg HGo
      have HX := Lib.hid (Rd.below HV.out (bthen HB1.out HB.out))
      have HBW := Lib.hid (bthen HB1.out HB.out)
      have HN1 := Lib.hid (Pl.bare_skip gg x hgbl.out)
      have HN2 := Lib.hid (Pl.bare_note gg x hgbl.out)
      have HN3 := Lib.hid (Pl.bare_word gg x hgbl.out)
      have HN4 := Lib.hid (Pl.bare_none gg hgbl.out)
      obtain ⟨L1, hL1⟩ : ∃ y, gg ++ x = y := ⟨_, rfl⟩
      obtain ⟨L2, hL2⟩ : ∃ y, gg ++ [35] ++ x = y := ⟨_, rfl⟩
      obtain ⟨L3, hL3⟩ : ∃ y, gg ++ [119] ++ x = y := ⟨_, rfl⟩
      have hl1 : L1.length = gg.length + x.length := by rw [← hL1]; simp
      have hl2 : L2.length = gg.length + 1 + x.length := by rw [← hL2]; simp; omega
      have hl3 : L3.length = gg.length + 1 + x.length := by rw [← hL3]; simp; omega
      have hl1b : L1.length ≤ 300 := by have := HXL.out; have := hgl.out; omega
      have hl2b : L2.length ≤ 300 := by have := HXL.out; have := hgl.out; omega
      have hl3b : L3.length ≤ 300 := by have := HXL.out; have := hgl.out; omega
      rw [hL1] at HN1
      rw [hL2] at HN2
      rw [hL3] at HN3
      have HL1 := Lib.hid hL1
      have HL2 := Lib.hid hL2
      have HL3 := Lib.hid hL3
      clear hl1 hl2 hl3 hL1 hL2 hL3
      have hg8 : gg.length ≤ 8 := by have := hgl.out; omega
      have hx200 : x.length ≤ 200 := by have := HXL.out; omega
      obtain ⟨wb, hwb⟩ : ∃ y, y = wr := ⟨_, rfl⟩
      subst hwb
      clear HO4 HO HB HV HR HB1 HB4 hgbl hk hlt
      go_wp2_with (first | ((with_reducible refine gate_builtin (b := .append) (xs := #[.tmp 36, .tmp 37]) rfl ?_); at_builtin; refine appN (w0 := wb) wb.heap.size rfl (.tmp 36) (.tmp 37) rfl _ _ [] gg rfl rfl (lit0 wb) (Rd.below HG.out (below_alloc (Below.refl _ _) _)) (below_alloc (Below.refl _ _) _) (by simp) ?_ ?_; (first | omega | (simp; omega)); intro v5 w5 ho5 hb5 hg5 hat5; rw [List.nil_append] at ho5; have HO5 := Lib.hid ho5; have HB5 := Lib.hid hb5; clear ho5 hb5 hg5 hat5) | ((with_reducible refine gate_builtin (b := .append) (xs := #[.tmp 38, .tmp 39]) rfl ?_); at_builtin; refine appN (w0 := wb) wb.heap.size rfl (.tmp 38) (.tmp 39) rfl _ _ gg x rfl rfl HO5.out (Rd.below HX.out HB5.out) HB5.out HB5.out.size ?_ ?_; (first | omega | (simp; omega)); intro v6 w6 ho6 hb6 hg6 hat6; rw [HL1.out] at ho6; obtain ⟨A6, c6, hv6⟩ := Kd.N_slice ho6; subst hv6; have HO6 := Lib.hid ho6; have HB6 := Lib.hid hb6; clear ho6 hb6 hg6 hat6))
      have hpb := bare_any _ 0 _ w6 HO6.out.rd (by omega) (by omega) (by first | omega | (simp; omega))
      rw [HN1.out] at hpb
      refine hpb.mono ?_
      rintro e wc ⟨rfl, hb9⟩
      replace hb9 := bthen HB6.out hb9
      replace HBW := Lib.hid (bthen HBW.out hb9)
      replace HX := Lib.hid (Rd.below HX.out hb9)
      replace HG := Lib.hid (Rd.below HG.out hb9)
      clear hpb hb9 HO5 HB5 HO6 HB6
      go_wp2_with (first | ((with_reducible refine gate_builtin (b := .append) (xs := #[.tmp 43, .tmp 44]) rfl ?_); at_builtin; refine appN (w0 := wc) wc.heap.size rfl (.tmp 43) (.tmp 44) rfl _ _ [] gg rfl rfl (lit0 wc) (Rd.below HG.out (below_alloc (Below.refl _ _) _)) (below_alloc (Below.refl _ _) _) (by simp) ?_ ?_; (first | omega | (simp; omega)); intro v5 w5 ho5 hb5 hg5 hat5; rw [List.nil_append] at ho5; have HO5 := Lib.hid ho5; have HB5 := Lib.hid hb5; clear ho5 hb5 hg5 hat5) | ((with_reducible refine gate_builtin (b := .append) (xs := #[.tmp 45, .tmp 46]) rfl ?_); at_builtin; refine app1 (w0 := wc) wc.heap.size rfl (.tmp 45) (.tmp 46) rfl _ gg 35 _ rfl rfl rfl HO5.out HB5.out HB5.out.size ?_ ?_; (first | omega | (simp; omega)); intro v6 w6 ho6 hb6 hg6 hat6; have HO6 := Lib.hid ho6; have HB6 := Lib.hid hb6; clear ho6 hb6 hg6 hat6) | ((with_reducible refine gate_builtin (b := .append) (xs := #[.tmp 47, .tmp 48]) rfl ?_); at_builtin; refine appN (w0 := wc) wc.heap.size rfl (.tmp 47) (.tmp 48) rfl _ _ (gg ++ [35]) x rfl rfl HO6.out (Rd.below HX.out HB6.out) HB6.out HB6.out.size ?_ ?_; (first | omega | (simp; omega)); intro v7 w7 ho7 hb7 hg7 hat7; rw [HL2.out] at ho7; obtain ⟨A7, c7, hv7⟩ := Kd.N_slice ho7; subst hv7; have HO7 := Lib.hid ho7; have HB7 := Lib.hid hb7; clear ho7 hb7 hg7 hat7))
      have hpb := bare_any _ 0 _ w7 HO7.out.rd (by omega) (by omega) (by first | omega | (simp; omega))
      rw [HN2.out] at hpb
      refine hpb.mono ?_
      rintro e wd ⟨rfl, hb9⟩
      replace hb9 := bthen HB7.out hb9
      replace HBW := Lib.hid (bthen HBW.out hb9)
      replace HX := Lib.hid (Rd.below HX.out hb9)
      replace HG := Lib.hid (Rd.below HG.out hb9)
      clear hpb hb9 HO5 HB5 HO6 HB6 HO7 HB7
      go_wp2_with (first | ((with_reducible refine gate_builtin (b := .append) (xs := #[.tmp 52, .tmp 53]) rfl ?_); at_builtin; refine appN (w0 := wd) wd.heap.size rfl (.tmp 52) (.tmp 53) rfl _ _ [] gg rfl rfl (lit0 wd) (Rd.below HG.out (below_alloc (Below.refl _ _) _)) (below_alloc (Below.refl _ _) _) (by simp) ?_ ?_; (first | omega | (simp; omega)); intro v5 w5 ho5 hb5 hg5 hat5; rw [List.nil_append] at ho5; have HO5 := Lib.hid ho5; have HB5 := Lib.hid hb5; clear ho5 hb5 hg5 hat5) | ((with_reducible refine gate_builtin (b := .append) (xs := #[.tmp 54, .tmp 55]) rfl ?_); at_builtin; refine app1 (w0 := wd) wd.heap.size rfl (.tmp 54) (.tmp 55) rfl _ gg 119 _ rfl rfl rfl HO5.out HB5.out HB5.out.size ?_ ?_; (first | omega | (simp; omega)); intro v6 w6 ho6 hb6 hg6 hat6; have HO6 := Lib.hid ho6; have HB6 := Lib.hid hb6; clear ho6 hb6 hg6 hat6) | ((with_reducible refine gate_builtin (b := .append) (xs := #[.tmp 56, .tmp 57]) rfl ?_); at_builtin; refine appN (w0 := wd) wd.heap.size rfl (.tmp 56) (.tmp 57) rfl _ _ (gg ++ [119]) x rfl rfl HO6.out (Rd.below HX.out HB6.out) HB6.out HB6.out.size ?_ ?_; (first | omega | (simp; omega)); intro v7 w7 ho7 hb7 hg7 hat7; rw [HL3.out] at ho7; obtain ⟨A7, c7, hv7⟩ := Kd.N_slice ho7; subst hv7; have HO7 := Lib.hid ho7; have HB7 := Lib.hid hb7; clear ho7 hb7 hg7 hat7))
      have hpb := bare_any _ 0 _ w7 HO7.out.rd (by omega) (by omega) (by first | omega | (simp; omega))
      rw [HN3.out] at hpb
      refine hpb.mono ?_
      rintro e we ⟨rfl, hb9⟩
      replace hb9 := bthen HB7.out hb9
      replace HBW := Lib.hid (bthen HBW.out hb9)
      replace HX := Lib.hid (Rd.below HX.out hb9)
      replace HG := Lib.hid (Rd.below HG.out hb9)
      clear hpb hb9 HO5 HB5 HO6 HB6 HO7 HB7
      obtain ⟨bx, hbx⟩ : ∃ y, Pl.bare x = y := ⟨_, rfl⟩
      have hpx := bare_any _ 0 x we HX.out (by omega) (by omega) (by omega)
      rw [hbx] at hpx HN1 ⊢
      have HPX := Lib.hid hpx
      clear hpx hbx HN1 HN2 HN3
      have hbb : (bx == bx) = true := by simp
      go_wp2_with fail
      refine HPX.out.mono ?_
      rintro e wf ⟨rfl, hb9⟩
      replace HBW := Lib.hid (bthen HBW.out hb9)
      replace HG := Lib.hid (Rd.below HG.out hb9)
      clear HPX HX hb9
      have hpg := bare_any _ 0 gg wf HG.out (by omega) (by omega) (by omega)
      rw [HN4.out] at hpg
      have HPG := Lib.hid hpg
      clear hpg
      go_wp2_with fail
      refine HPG.out.mono ?_
      rintro e wg ⟨rfl, hb9⟩
      replace HBW := Lib.hid (bthen HBW.out hb9)
      clear HPG HG hb9
      go_wp2_with fail
      go_ret
      exact ⟨rfl, HBW.out⟩
end Go.Proofs.Ytjogbgiknnfinaa
