import Derived.Test.YtjogbgiknnfinaaLaw7
import Derived.Test.YtjogbgiknnfinaaRList
/-! The law LineParts, walked. -/
set_option linter.unusedSimpArgs false
set_option linter.unusedVariables false
namespace Go.Proofs.Ytjogbgiknnfinaa
open Go.RowKit Go.Proofs.YtjogbgiknnfinaaW.PrintWords Go.Proofs.YtjogbgiknnfinaaW.PrintLast Go.Proofs.YtjogbgiknnfinaaW.PrintMore
attribute [local go_sem] max2_int min2_int max_two min_two

namespace Pl
def shiftL (k : Nat) (x : Int × List UInt8) : Int × List UInt8 := (x.1 + (k : Int), x.2)
theorem linesFrom_shift (n : Nat) : ∀ (off k : Nat) (l : List UInt8), l.length ≤ n → linesFrom (off + k) l = (linesFrom off l).map (shiftL k) := by
  induction n with
  | zero =>
    intro off k l h
    have : l = [] := List.eq_nil_of_length_eq_zero (by omega)
    subst this
    rw [linesFrom_nil, linesFrom_nil]; rfl
  | succ n ih =>
    intro off k l h
    by_cases hl : l = []
    · subst hl; rw [linesFrom_nil, linesFrom_nil]; rfl
    · have hp := List.length_pos_iff.2 hl
      rw [linesFrom_cons _ hl, linesFrom_cons off hl, List.map_cons, ← ih _ k _ (by simp; omega)]
      rw [show off + k + cutLen 10 l + 1 = off + cutLen 10 l + 1 + k by omega]
      simp [shiftL]
theorem linesFrom_two (n : Nat) : ∀ (off : Nat) (p q : List UInt8), p.length ≤ n → linesFrom off (p ++ [10] ++ q) = linesFrom off (p ++ [10]) ++ linesFrom (off + p.length + 1) q := by
  induction n with
  | zero =>
    intro off p q h
    have : p = [] := List.eq_nil_of_length_eq_zero (by omega)
    subst this
    rw [linesFrom_cons off (by simp), linesFrom_cons off (by simp)]
    simp [cutLen, linesFrom_nil]
  | succ n ih =>
    intro off p q h
    rw [linesFrom_cons off (by simp), linesFrom_cons off (by simp)]
    have hc : ∀ r : List UInt8, cutLen 10 (p ++ [10] ++ r) = cutLen 10 p := by
      intro r
      clear h ih
      induction p with
      | nil => simp [cutLen]
      | cons a p ih =>
        simp only [cutLen, List.cons_append, List.takeWhile_cons] at *
        split
        · rw [List.length_cons, List.length_cons, ih]
        · rfl
    have hle := cutLen_le 10 p
    have h0 := hc []
    rw [List.append_nil] at h0
    rw [hc q, h0]
    have ht : ∀ r : List UInt8, (p ++ [10] ++ r).take (cutLen 10 p) = p.take (cutLen 10 p) := fun r => by
      rw [List.append_assoc, List.take_append_of_le_length hle]
    have t0 := ht []
    rw [List.append_nil] at t0
    rw [ht q, t0, List.cons_append]
    congr 1
    rcases Nat.lt_or_ge (cutLen 10 p) p.length with hlt | hge
    · have d1 : (p ++ [10] ++ q).drop (cutLen 10 p + 1) = p.drop (cutLen 10 p + 1) ++ [10] ++ q := by
        rw [List.append_assoc, List.append_assoc, List.drop_append_of_le_length (by omega)]
      have d2 : (p ++ [10]).drop (cutLen 10 p + 1) = p.drop (cutLen 10 p + 1) ++ [10] := by
        rw [List.drop_append_of_le_length (by omega)]
      rw [d1, d2, ih _ _ q (by simp; omega)]
      congr 2
      simp
      omega
    · have e : cutLen 10 p = p.length := by omega
      rw [e]
      have d1 : (p ++ [10] ++ q).drop (p.length + 1) = q := by
        have : (p ++ [10]).length = p.length + 1 := by simp
        rw [← this, List.drop_left]
      have d2 : (p ++ [10]).drop (p.length + 1) = [] := List.drop_of_length_le (by simp)
      rw [d1, d2, linesFrom_nil, List.nil_append]
theorem lines_two (p q : List UInt8) : lines (p ++ [10] ++ q) = lines (p ++ [10]) ++ (lines q).map (shiftL (p.length + 1)) := by
  unfold lines
  rw [linesFrom_two _ 0 p q (Nat.le_refl _), ← linesFrom_shift _ 0 (p.length + 1) q (Nat.le_refl _)]
  congr 2
end Pl
theorem lit00 (W : World) : Own kb 5 (W.alloc (.cells #[] 5)) W.heap.size (.slice (some ⟨W.heap.size, 0, none⟩) 0 0) [] := lit_own W W.heap.size [] [] rfl (Nat.le_refl _) (by simp)

theorem lit00b (W : World) (g base : Nat) (hg : g = W.heap.size) (hb : base ≤ g) : Own kb 5 (W.alloc (.cells #[] 5)) base (.slice (some ⟨g, 0, none⟩) 0 0) [] := by
  subst hg
  exact lit_own W base [] [] rfl hb (by simp)
theorem lit10b (W : World) (g : Nat) (hg : g = W.heap.size) : Rd kb (W.alloc (.cells #[.int .u8 10] 5)) (.slice (some ⟨g, 0, none⟩) 1 1) [10] := by
  subst hg
  exact Kd.V_mono (lit_rd W 1 #[.int .u8 10] 5 (0, 0) [10] rfl (by simp) (by simp)) fun _ _ => trivial
theorem lit10g {W W1 : World} {g : Nat} {row : Option Nat} (h : W.heap[g]? = some (.cells #[.int .u8 10] 5)) (hg : W.grownBy W1 row) (hne : some g ≠ row) : Rd kb W1 (.slice (some ⟨g, 0, none⟩) 1 1) [10] := by
  have := blk_grown h hg hne
  exact Kd.V_mono (blk_rd (ok := fun _ => True) (xs := [10]) this rfl trivial (by simp) (by simp)) fun _ _ => trivial

set_option maxRecDepth 100000 in
set_option maxHeartbeats 4000000 in
theorem lineParts_walk (va : Value) (a : List UInt8) (vb : Value) (b : List UInt8) (w : World) (hva : Rd kb w va a) (_ : a.length ≤ 140737488351232) (hvb : Rd kb w vb b) (_ : b.length ≤ 140737488351232) :
    Calls Try.prog 8 #[va, vb] w fun e w' => e = .returned (.bool true) ∧ Below w.heap.size w w' := by
  obtain ⟨A, c, rfl, hc, hF⟩ := hva
  obtain ⟨B, d, rfl, hd, hG⟩ := hvb
  obtain ⟨m, hm⟩ : ∃ m, min a.length 500 = m := ⟨_, rfl⟩
  obtain ⟨n, hn⟩ : ∃ n, min b.length 500 = n := ⟨_, rfl⟩
  obtain ⟨hcut, hV⟩ := byte_to hF hc m (by omega)
  obtain ⟨hcut2, hV2⟩ := byte_to hG hd n (by omega)
  replace hcut := hcut .i64 (m : Int) rfl
  replace hcut2 := hcut2 .i64 (n : Int) rfl
  have hif : (if (500 : Int) < (a.length : Int) then (500 : Int) else (a.length : Int)) = (m : Int) := by split <;> omega
  have hif2 : (if (500 : Int) < (b.length : Int) then (500 : Int) else (b.length : Int)) = (n : Int) := by split <;> omega
  have hm2 : m ≤ 500 := by omega
  have hn2 : n ≤ 500 := by omega
  have hmx := Kd.F_max hF
  have hnx := Kd.F_max hG
  obtain ⟨x, hx⟩ : ∃ x, a.take m = x := ⟨_, rfl⟩
  obtain ⟨y, hy⟩ : ∃ y, b.take n = y := ⟨_, rfl⟩
  have hxl : x.length = m := by rw [← hx]; simp; omega
  have hyl : y.length = n := by rw [← hy]; simp; omega
  rw [hx] at hV
  rw [hy] at hV2
  have HV := Lib.hid (Kd.V_mono hV fun _ _ => trivial : Rd kb w _ _)
  have HV2 := Lib.hid (Kd.V_mono hV2 fun _ _ => trivial : Rd kb w _ _)
  have HXL := Lib.hid hxl
  have HYL := Lib.hid hyl
  clear hV hV2 hF hG hx hy hm hn hxl hyl
  go_enter Try.func8, Try.ntmps8
  go_upto_region 2 with (go_at_call 20; refine (shown07_any _).mono ?_; rintro e w1 ⟨rfl, hb1⟩; have HB1 := Lib.hid hb1; clear hb1)
  have hR1 := Rd.below HV.out HB1.out
  have hR2 := Rd.below HV2.out HB1.out
  have HR1 := Lib.hid hR1
  have HR2 := Lib.hid hR2
  have hxl5 : x.length ≤ 500 := by have := HXL.out; omega
  clear hR1 hR2 HV HV2
  refine Code.wp_mono (Q := fun e ac W => ∃ (A6 : Option Addr) (c6 : Nat) (t17 t18 t19 t20 t21 t22 t23 t24 t25 t26 t27 t28 t29 t30 : Value), e = .normal ∧ ac = { tmps := #[.slice A a.length c, .slice B b.length d, undef, undef, .bool false, .bool true, .slice A6 (x.length + 1) c6, .slice B n d, undef, undef, undef, undef, undef, undef, undef, undef, .bool true, t17, t18, t19, t20, t21, t22, t23, t24, t25, t26, t27, t28, t29, t30, undef, undef, undef, undef, undef, undef, undef, undef, undef, undef, undef, undef, undef, undef, undef, undef, undef, undef, undef, undef, undef, undef, undef, undef, undef, undef, undef, undef, undef, undef, undef, undef, undef, undef, undef, undef, undef, undef, undef, undef, undef, undef, undef, undef, undef, undef, undef, undef, undef, undef, undef], defers := [] } ∧ Own kb 5 W w1.heap.size (.slice A6 (x.length + 1) c6) (x ++ [10]) ∧ Below w1.heap.size w1 W) ?imp ?reg
  case reg =>
    go_region_held3 (fun W => True) (first | trivial)
      (first | (refine appN_step (w0 := w1) w1.heap.size rfl (.tmp 17) (.tmp 22) rfl _ _ [] x rfl rfl (lit00b w1 _ _ rfl (Nat.le_refl _)).drew (Rd.below HR1.out (below_alloc (Below.refl _ _) _).drew) (below_alloc (Below.refl _ _) _).drew (below_alloc (Below.refl _ _) _).drew.size (by simp; omega) ?_; intro v5 w5 ho5 hb5 hg5 hat5; rw [List.nil_append] at ho5; have HO5 := Lib.hid ho5; have HB5 := Lib.hid hb5) | (refine appN_step (w0 := w1) w1.heap.size rfl (.tmp 17) (.tmp 22) rfl _ _ [] x rfl rfl ((lit00b w1 _ _ rfl (Nat.le_refl _)).alloc (.cells #[.int .u8 10] 5)).drew (Rd.below HR1.out (below_alloc (below_alloc (Below.refl _ _) _) _).drew) (below_alloc (below_alloc (Below.refl _ _) _) _).drew (below_alloc (below_alloc (Below.refl _ _) _) _).drew.size (by simp; omega) ?_; intro v5 w5 ho5 hb5 hg5 hat5; rw [List.nil_append] at ho5; have HO5 := Lib.hid ho5; have HB5 := Lib.hid hb5; have h10 := Lib.hid (lit10g (g := w1.heap.size + 1) (W := ((w1.alloc (.cells #[] 5)).alloc (.cells #[.int .u8 10] 5)).drew) (by have := heap_alloc_new (w1.alloc (.cells #[] 5)) (.cells #[.int .u8 10] 5); rw [World.size_alloc] at this; exact this) hg5 (by intro he; simp [Value.ownBlock, Act.eval] at he))) | (refine appN_step (w0 := w1) w1.heap.size rfl (.tmp 17) (.tmp 22) rfl _ _ [] x rfl rfl (lit00b (w1.alloc (.cells #[.int .u8 10] 5)) _ _ (by simp) (by simp)).drew (Rd.below HR1.out (below_alloc (below_alloc (Below.refl _ _) _) _).drew) (below_alloc (below_alloc (Below.refl _ _) _) _).drew (below_alloc (below_alloc (Below.refl _ _) _) _).drew.size (by simp; omega) ?_; intro v5 w5 ho5 hb5 hg5 hat5; rw [List.nil_append] at ho5; have HO5 := Lib.hid ho5; have HB5 := Lib.hid hb5; have h10 := Lib.hid (lit10g (g := w1.heap.size) (W := ((w1.alloc (.cells #[.int .u8 10] 5)).alloc (.cells #[] 5)).drew) ((Below.heap_alloc _ _ _ (by simp)).trans (heap_alloc_new w1 (.cells #[.int .u8 10] 5))) hg5 (by intro he; simp [Value.ownBlock, Act.eval] at he))) | (refine appN_step (w0 := w1) w1.heap.size rfl (.tmp 23) (.tmp 24) rfl _ _ x [10] rfl rfl HO5.out h10.out HB5.out HB5.out.size (by simp; omega) ?_; intro v6 w6 ho6 hb6 hg6 hat6; obtain ⟨A6, c6, hv6⟩ := Kd.N_slice ho6; rw [List.length_append, List.length_singleton] at hv6; subst hv6; have HO6 := Lib.hid ho6; have HB6 := Lib.hid hb6) | (refine appN_step (w0 := w1) w1.heap.size rfl (.tmp 23) (.tmp 24) rfl _ _ x [10] rfl rfl HO5.out.drew h10.out.drew HB5.out.drew HB5.out.drew.size (by simp; omega) ?_; intro v6 w6 ho6 hb6 hg6 hat6; obtain ⟨A6, c6, hv6⟩ := Kd.N_slice ho6; rw [List.length_append, List.length_singleton] at hv6; subst hv6; have HO6 := Lib.hid ho6; have HB6 := Lib.hid hb6) | (refine appN_step (w0 := w1) w1.heap.size rfl (.tmp 23) (.tmp 24) rfl _ _ x [10] rfl rfl (HO5.out.alloc _) (lit10b w5 _ rfl) (below_alloc HB5.out _) (below_alloc HB5.out _).size (by simp; omega) ?_; intro v6 w6 ho6 hb6 hg6 hat6; obtain ⟨A6, c6, hv6⟩ := Kd.N_slice ho6; rw [List.length_append, List.length_singleton] at hv6; subst hv6; have HO6 := Lib.hid ho6; have HB6 := Lib.hid hb6) | (refine appN_step (w0 := w1) w1.heap.size rfl (.tmp 23) (.tmp 24) rfl _ _ x [10] rfl rfl (HO5.out.alloc _).drew (lit10b w5 _ rfl).drew (HB5.out.alloc HB5.out.size _).drew (HB5.out.alloc HB5.out.size _).drew.size (by simp; omega) ?_; intro v6 w6 ho6 hb6 hg6 hat6; obtain ⟨A6, c6, hv6⟩ := Kd.N_slice ho6; rw [List.length_append, List.length_singleton] at hv6; subst hv6; have HO6 := Lib.hid ho6; have HB6 := Lib.hid hb6) | (refine appN_step (w0 := w1) w1.heap.size rfl (.tmp 23) (.tmp 24) rfl _ _ x [10] rfl rfl (HO5.out.alloc _) (lit10b w5 _ rfl) (HB5.out.alloc HB5.out.size _) (HB5.out.alloc HB5.out.size _).size (by simp; omega) ?_; intro v6 w6 ho6 hb6 hg6 hat6; obtain ⟨A6, c6, hv6⟩ := Kd.N_slice ho6; rw [List.length_append, List.length_singleton] at hv6; subst hv6; have HO6 := Lib.hid ho6; have HB6 := Lib.hid hb6))
    all_goals first | exact ⟨_, _, _, _, _, _, _, _, _, _, _, _, _, _, _, _, rfl, rfl, HO6.out, HB6.out⟩ | exact ⟨_, _, _, _, _, _, _, _, _, _, _, _, _, _, _, _, rfl, rfl, HO6.out.drew, HB6.out.drew⟩
  case imp =>
    rintro e ac W2 ⟨A6, c6, t17, t18, t19, t20, t21, t22, t23, t24, t25, t26, t27, t28, t29, t30, rfl, rfl, ho6, hb6⟩
    have HX := Lib.hid ho6.rd
    have HXO := Lib.hid ho6
    have HY2 := Lib.hid (Rd.below HR2.out hb6)
    have HB2 := Lib.hid (bthen HB1.out hb6)
    have HBS := Lib.hid hb6
    have hyl5 : y.length ≤ 500 := by have := HYL.out; omega
    clear ho6 hb6 HR1 HR2 hcut hcut2 hif hif2
    have hsz2 : w1.heap.size ≤ W2.heap.size := by have := HXO.out; exact HBS.out.size
    obtain ⟨xx, hxx⟩ : ∃ z, x ++ [10] = z := ⟨_, rfl⟩
    have hxxl : xx.length = x.length + 1 := by rw [← hxx]; simp
    have HLT := Lib.hid (Pl.lines_two x y)
    rw [hxx] at HLT HX
    have hxx5 : xx.length ≤ 501 := by omega
    have HXXL := Lib.hid hxxl
    clear HXO hxx hxxl
    go_wp2_with fail
    refine (list_any _ xx _ HX.out (by omega)).mono ?_
    rintro e w3 ⟨v3, rfl, hr3, hb3⟩
    obtain ⟨A3, c3, hv3⟩ := Kd.N_slice hr3
    subst hv3
    have HL3 := Lib.hid hr3
    have hlt3 := hr3.lt
    have HX3 := Lib.hid (Rd.below HX.out hb3)
    have HY3 := Lib.hid (Rd.below HY2.out hb3)
    have HB3 := Lib.hid hb3
    clear hr3 hb3 HX HY2
    go_wp2_with fail
    refine (list_any _ y _ HY3.out (by omega)).mono ?_
    rintro e w4 ⟨v4, rfl, hr4, hb4⟩
    obtain ⟨A4, c4, hv4⟩ := Kd.N_slice hr4
    subst hv4
    have HM4 := Lib.hid hr4
    have HL4 := Lib.hid (HL3.out.below hb4)
    have HX4 := Lib.hid (Rd.below HX3.out hb4)
    have HY4 := Lib.hid (Rd.below HY3.out hb4)
    have HB4 := Lib.hid (bthen HB3.out hb4)
    have hs34 : w3.heap.size ≤ w4.heap.size := hb4.size
    have hs23 : W2.heap.size ≤ w3.heap.size := HB3.out.size
    clear hr4 hb4 HL3 HX3 HY3 HB3
    go_wp2_with (first | ((with_reducible refine gate_builtin (b := .append) (xs := #[.tmp 42, .tmp 43]) rfl ?_); at_builtin; refine appN (w0 := w4) w4.heap.size rfl (.tmp 42) (.tmp 43) rfl _ _ [] xx rfl rfl (lit00 w4) (Rd.below HX4.out (below_alloc (Below.refl _ _) _)) (below_alloc (Below.refl _ _) _) (by simp) ?_ ?_; (first | omega | (simp; omega)); intro v5 w5 ho5 hb5 hg5 hat5; rw [List.nil_append] at ho5; have HO5 := Lib.hid ho5; have HB5 := Lib.hid hb5; clear ho5 hb5 hg5 hat5) | ((with_reducible refine gate_builtin (b := .append) (xs := #[.tmp 44, .tmp 45]) rfl ?_); at_builtin; refine appN (w0 := w4) w4.heap.size rfl (.tmp 44) (.tmp 45) rfl _ _ xx y rfl rfl HO5.out (Rd.below HY4.out HB5.out) HB5.out HB5.out.size ?_ ?_; (first | omega | (simp; omega)); intro v6 w6 ho6 hb6 hg6 hat6; obtain ⟨A9, c9, hv9⟩ := Kd.N_slice ho6; rw [List.length_append] at hv9; subst hv9; have HO6 := Lib.hid ho6; have HB6 := Lib.hid hb6; clear ho6 hb6 hg6 hat6))
    have hal := list_any _ (xx ++ y) w6 HO6.out.rd (by simp; omega)
    refine hal.mono ?_
    rintro e w7 ⟨v7, rfl, hr7, hb7⟩
    rw [HLT.out] at hr7
    have hs46 : w4.heap.size ≤ w6.heap.size := HB6.out.size
    have hs67 : w6.heap.size ≤ w7.heap.size := hb7.size
    have hb47 := bthen HB6.out hb7
    have HL7 := Lib.hid (HL4.out.below hb47)
    have HM7 := Lib.hid (Kd.V_mono (Kd.V_bound (Own.v (HM4.out.below hb47))) fun k hk => hk : Kd.V kLine 0 w7 0 (fun k => w3.heap.size ≤ k ∧ k < w7.heap.size) _ _)
    have HA7 := Lib.hid (Kd.V_mono (Kd.V_bound (Own.v hr7)) fun k hk => ⟨by omega, hk.2⟩ : Kd.V kLine 0 w7 0 (fun k => w3.heap.size ≤ k ∧ k < w7.heap.size) _ _)
    have HB7 := Lib.hid (bthen HB4.out hb47)
    have hown : ∀ j, (Value.slice A3 (Pl.lines xx).length c3).ownBlock = some j → j < w3.heap.size ∨ w7.heap.size ≤ j := fun j hj => .inl (hlt3 j hj)
    have HK := Lib.hid (Pl.lines_in y)
    have hPl := Pl.lines_len xx
    have hQl := Pl.lines_len y
    obtain ⟨P, hP⟩ : ∃ P, Pl.lines xx = P := ⟨_, rfl⟩
    obtain ⟨Q, hQ⟩ : ∃ Q, Pl.lines y = Q := ⟨_, rfl⟩
    obtain ⟨Av, cv, hvv⟩ := Kd.N_slice hr7
    subst hvv
    rw [hP] at hown HL7 HA7 hPl hr7 ⊢
    rw [hQ] at HM7 HA7 HK hQl hr7 ⊢
    have hown0 := Lib.hid hown
    clear hal hb7 hb47 hown hP hQ hlt3 HL4 HM4 hr7 HLT
    go_wp2_with fail
    go_loopw [8, 52] (fun o i wr => ∃ (k : Nat), i = .int .i64 (k : Int) ∧ Aside0 (k ≤ Q.length) ∧ Aside0 (Own kLine 26 wr W2.heap.size o (P ++ (Q.take k).map (Pl.shiftL (x.length + 1)))) ∧ Aside0 (Below W2.heap.size W2 wr ∧ w7.heap.size ≤ wr.heap.size) ∧ Aside0 (∀ j, w3.heap.size ≤ j → j < w7.heap.size → wr.heap[j]? = w7.heap[j]?) ∧ Aside0 (∀ j, o.ownBlock = some j → j < w3.heap.size ∨ w7.heap.size ≤ j)) (fun _ i _ => Q.length - (intOf i).toNat)
    case atStart => exact ⟨0, rfl, ⟨by omega⟩, ⟨by simpa using HL7.out⟩, ⟨HB7.out, Nat.le_refl _⟩, ⟨fun _ _ _ => rfl⟩, ⟨hown0.out⟩⟩
    case round =>
      obtain ⟨k, rfl, hk, HO, HB, Hmid, Hown⟩ := hrel
      obtain ⟨⟨HBb, hsr⟩⟩ := HB
      have HMr := Kd.V_step HM7.out (w1 := wr) (fun j hj _ => Hmid.out j hj.1 hj.2)
      by_cases hlt : k < Q.length
      · obtain ⟨z, hz⟩ : ∃ z, Q[k]? = some z := ⟨_, List.getElem?_eq_getElem hlt⟩
        obtain ⟨_, _, hFm⟩ := Kd.V_at HMr
        obtain ⟨ad, A5, c5, hAa, hV5, x0, x1⟩ := line_get hFm k z hz
        subst hAa
        have q1 : (0 : Int) ≤ (k : Int) := by omega
        have q2 : (k : Int) < (Q.length : Int) := by omega
        obtain ⟨hz1, hz2⟩ := HK.out z (List.mem_of_getElem? hz)
        obtain ⟨az, bz, rfl⟩ : ∃ a b, z = (a, b) := ⟨_, _, rfl⟩
        simp only at x0 x1 hV5 hz1 hz2
        have hwz : IntKind.i64.wrap (az + ((x.length : Int) + 1)) = az + ((x.length : Int) + 1) := IntWalk.i64_in _ (by omega)
        have hzq : (P ++ (Q.take k).map (Pl.shiftL (x.length + 1))).length ≤ 2000 := by simp; omega
        have HV5 := Lib.hid hV5
        have HZ := Lib.hid hz
        clear hFm hz hV5 HMr
        go_upto_region 10 with fail
        refine wp_at fun W hW => ?_
        have hbW : Below wr.heap.size wr W := by rw [← hW]; exact below_alloc (Below.refl _ _) _
        have KW : Blk W wr.heap.size #[.int .i64 (az + ((x.length : Int) + 1)), .slice A5 bz.length c5] 26 := by
          rw [← hW]
          exact Blk.new wr _ 26
        clear hW
        have HOW := Lib.hid (Kd.N_below HO.out hbW : Own kLine 26 W W2.heap.size u8 _)
        have HBW := Lib.hid (HBb.trans (hbW.mono HBb.size) : Below W2.heap.size W2 W)
        have HVW := Lib.hid (Kd.V_below HV5.out hbW)
        have hsW : wr.heap.size ≤ W.heap.size := hbW.size
        have hs2W : W2.heap.size ≤ W.heap.size := HBW.out.size
        obtain ⟨kwc, kwf⟩ := KW.cell
        have kw0 := kwc 0
        have kw1 := kwc 1
        obtain ⟨pq, hpq⟩ : ∃ z, P ++ (Q.take k).map (Pl.shiftL (x.length + 1)) = z := ⟨_, rfl⟩
        rw [hpq] at HOW hzq
        have HPQ := Lib.hid hpq
        clear hpq HV5
        go_wp2_with ((with_reducible refine gate_builtin (b := .append) (xs := #[.tmp 62, .tmp 64]) rfl ?_); at_builtin; refine Kd.N_append kLine (w0 := W2) W2.heap.size rfl (.tmp 62) (.tmp 64) 40 26 (.agg #[(.int .i64 0), (.slice none 0 0)]) 32 rfl Try.underlying40 infoLine rfl (by decide) (by omega) u8 pq (az + ((x.length : Int) + 1), bz) [.int .i64 (az + ((x.length : Int) + 1)), .slice A5 bz.length c5] (fun k => W2.heap.size ≤ k) (fun k => w3.heap.size ≤ k ∧ k < w7.heap.size) rfl rfl ?aP ?aQ ?aF ?aO ?aB ?aS ?aL ?_; (case aP => exact line_FK HVW.out); (case aQ => exact fun j hj => ⟨by omega, fun he => by have := Hown.out j he.symm; omega⟩); (case aF => exact fun j hj => by omega); (case aO => exact HOW.out); (case aB => exact HBW.out); (case aS => exact hs2W); (case aL => omega); intro v9 w9 ho9 hb9 hg9 hat9)
        go_roundw
        case rel =>
          refine ⟨k + 1, by go_num, ⟨by omega⟩, ⟨?_⟩, ⟨hb9, ?_⟩, ⟨fun j h1 h2 => ?_⟩, ⟨fun j hj => ?_⟩⟩
          · have e : P ++ (Q.take (k + 1)).map (Pl.shiftL (x.length + 1)) = pq ++ [(az + ((x.length : Int) + 1), bz)] := by
              rw [List.take_add_one, HZ.out, List.map_append, ← List.append_assoc, HPQ.out]
              simp [Pl.shiftL]
            rw [e]
            exact ho9
          · have := hg9.size
            omega
          · rw [hg9.block j (by omega) (fun he => by have := Hown.out j he.symm; omega), hbW.block j (by omega)]
            exact Hmid.out j h1 h2
          · rcases hat9 with h | ⟨b9, h, hb⟩
            · exact Hown.out j (h ▸ hj)
            · rw [h] at hj
              cases hj
              omega
        case measure => simp [intOf]; omega
      · obtain rfl : k = Q.length := by have := hk.out; omega
        have hd : decide ((Q.length : Int) < (Q.length : Int)) = false := by simp
        have hl := HO.out
        rw [List.take_of_length_le (Nat.le_refl _)] at hl
        have HAr := Kd.V_step HA7.out (w1 := wr) (fun j hj _ => Hmid.out j hj.1 hj.2)
        obtain ⟨Ao, co, hvo⟩ := Kd.N_slice hl
        subst hvo
        have HV1 := Lib.hid (Kd.V_mono HAr fun _ _ => trivial : Rd kLine wr _ _)
        have HV2 := Lib.hid hl.rd
        have HBz := Lib.hid (bthen HB2.out HBb)
        have hsm := sameL_any _ _ _ wr HV1.out HV2.out
        rw [List.length_append, List.length_map] at hsm
        have HSM := Lib.hid hsm
        clear hl HAr hsm
        go_wp2_with fail
        refine HSM.out.mono ?_
        rintro e wz ⟨rfl, hbz⟩
        have HBy := Lib.hid (bthen HBz.out hbz)
        go_wp2_with fail
        go_ret
        exact ⟨rfl, HBy.out⟩
end Go.Proofs.Ytjogbgiknnfinaa
