import Derived.Test.YtjdcejbblcbjpaaDoorAdj
import Derived.Test.YtjdcejbblcbjpaaDoorIndexAny
import Derived.Test.YtjdcejbblcbjpaaDoorRowKit
import Derived.Lib.Join
/-! Rows of bytes. -/
set_option linter.unusedSimpArgs false
set_option linter.unusedVariables false
namespace Go.Proofs.YtjdcejbblcbjpaaDoor
open Go.RowKit Go.Proofs.YtjdcejbblcbjpaaDoorW.PrintWords Go.Proofs.YtjdcejbblcbjpaaDoorW.PrintLast Go.Proofs.YtjdcejbblcbjpaaDoorW.PrintMore
theorem bytesK_here : True := trivial
theorem n_rd {α : Type} {d : Kd α} {e base : Nat} {w : World} {ok : Nat → Prop} {v : Value} {xs : List α} (h : Kd.N d e w base ok v xs) : Rd d w v xs := by
  obtain ⟨A, c, he, hl, hf⟩ := Kd.N_V (base' := 0) h
  exact Kd.V_mono ⟨A, c, he, hl, hf⟩ (fun _ _ => trivial)
/-- A row of bytes. -/
def kBytes : Kd (List UInt8) := Kd.slice 5 kb
theorem infoBytes : (Tryd.prog.info? 22).map (fun i => (i.zero, i.size, i.bytes)) = some (some (.slice none 0 0), kBytes.sz, 24) := by kernel_rfl
theorem bytes_FK {w : World} {ok : Nat → Prop} {vB : Value} {bs : List UInt8} (h : Kd.V kb 0 w 0 ok vB bs) : Kd.FK kBytes w ok bs [vB] := by
  obtain ⟨A, c, rfl, hl, hF⟩ := h
  exact fun W' hW => ⟨A, c, rfl, hl, hF W' hW⟩
theorem bytes_open {w : World} {ok : Nat → Prop} {x : List UInt8} {cs : List Value} (h : Kd.FK kBytes w ok x cs) : ∃ A c, cs = [.slice A x.length c] ∧ Kd.V kb 0 w 0 ok (.slice A x.length c) x := by
  obtain ⟨A, c, rfl, hl, _⟩ := Kd.FK_now h
  refine ⟨_, _, rfl, A, c, rfl, hl, fun W' hW => ?_⟩
  obtain ⟨A', c', he, hl', hC⟩ := h W' hW
  simp at he
  rw [he.1]
  exact hC
theorem bytes_own {w : World} {v : Value} {e base : Nat} {ok : Nat → Prop} {xs : List (List UInt8)} (h : Kd.N kBytes e w base ok v xs) (hp : 0 < xs.length) :
    ∃ g cap, v = .slice (some ⟨g, 0, none⟩) xs.length cap ∧ g < w.heap.size ∧ ∀ (i : Nat) (x : List UInt8), xs[i]? = some x → ∃ A2 c2, Kd.V kb 0 w 0 ok (.slice A2 x.length c2) x ∧ w.cell? ⟨g, i, none⟩ = some (.slice A2 x.length c2) := by
  obtain ⟨g, cap, rfl, _, hg, _⟩ := Kd.N_form h hp
  refine ⟨g, cap, rfl, hg, fun i x hx => ?_⟩
  obtain ⟨ad, cs, he, hK, hc⟩ := row_get (Kd.N_F h) i x hx
  injection he with he
  subst he
  obtain ⟨A2, c2, rfl, hV⟩ := bytes_open hK
  have e0 := hc 0 _ rfl
  rw [add_plain] at e0
  exact ⟨A2, c2, hV, by simpa [kBytes, Kd.slice] using e0⟩

end Go.Proofs.YtjdcejbblcbjpaaDoor
/-! adj.word, creelref09.plain. -/
set_option linter.unusedSimpArgs false
set_option linter.unusedVariables false
namespace Go.Proofs.YtjdcejbblcbjpaaDoor
open Go.RowKit Go.Proofs.YtjdcejbblcbjpaaDoorW.PrintWords Go.Proofs.YtjdcejbblcbjpaaDoorW.PrintLast Go.Proofs.YtjdcejbblcbjpaaDoorW.PrintMore

/-- the word that a label is, if it may be one -/
def Pl.aword (l : List UInt8) (num : Bool) : Option (List UInt8) := (Pl.text l num).bind fun b => if b.any Pl.bl then none else some b
theorem Pl.text_size {l b : List UInt8} {num : Bool} (h : Pl.text l num = some b) : 1 ≤ b.length ∧ b.length ≤ 32 := by
  rcases num with _ | _
  · rw [Pl.text_word] at h
    by_cases h1 : 1 ≤ l.length ∧ l.length ≤ 32
    · rw [Pl.label_some h1] at h
      injection h with h
      subst h
      exact h1
    · rw [Pl.label_none h1] at h
      cases h
  · by_cases h4 : l.length = 4
    · rw [Pl.text_num h4] at h
      injection h with h
      subst h
      have h5 := Pl.unfixB_lt l
      rw [h4] at h5
      have h6 := Pl.dec_all (Pl.unfixB l)
      have h7 := h6.2.2.2 10 (by omega) (by omega)
      exact ⟨h6.2.2.1, by omega⟩
    · rw [Pl.text_none h4] at h
      cases h
theorem Pl.aword_none {l : List UInt8} {num : Bool} (h : Pl.text l num = none) : Pl.aword l num = none := by rw [Pl.aword, h]; rfl
theorem Pl.aword_blank {l b : List UInt8} {num : Bool} (h : Pl.text l num = some b) (h1 : b.any Pl.bl = true) : Pl.aword l num = none := by rw [Pl.aword, h]; exact if_pos h1
theorem Pl.aword_some {l b : List UInt8} {num : Bool} (h : Pl.text l num = some b) (h1 : b.any Pl.bl = false) : Pl.aword l num = some b := by rw [Pl.aword, h]; exact if_neg (by rw [h1]; decide)
theorem Pl.aword_size {l b : List UInt8} {num : Bool} (h : Pl.aword l num = some b) : 1 ≤ b.length ∧ b.length ≤ 32 := by
  rcases ht : Pl.text l num with _ | t
  · rw [Pl.aword_none ht] at h; cases h
  · rcases hb : t.any Pl.bl with _ | _
    · rw [Pl.aword_some ht hb] at h
      injection h with h
      subst h
      exact Pl.text_size ht
    · rw [Pl.aword_blank ht hb] at h; cases h

set_option maxRecDepth 100000 in
set_option maxHeartbeats 4000000 in
theorem aword_any (v : Value) (l : List UInt8) (num : Bool) (w : World) (hv : Rd kb w v l) (hl : l.length ≤ 140737488355328) (ht : Tab3 w) : Calls Tryd.prog 14 #[v, .bool num] w (OptSaid (Pl.aword l num) w) := by
  have HU := Lib.hid (text_all v l num w hv hl ht.t)
  have HT := Lib.hid ht
  clear hv ht
  rcases hx : Pl.text l num with _ | b
  · have HE := Lib.hid (Pl.aword_none hx)
    rw [hx] at HU
    clear hx
    go_enter Tryd.func14, Tryd.ntmps14
    go_wp2_with (go_at_call 25; refine HU.out.mono ?_; rintro e w1 ⟨v1, rfl, ho, hb⟩; have HB := Lib.hid hb; obtain ⟨A, c, hv1⟩ := Kd.N_slice ho; subst hv1; clear ho hb; simp only [Option.isSome_none, Option.getD_none, List.length_nil])
    go_ret2
    rw [OptSaid, HE.out]
    exact ⟨_, rfl, Own.nil _ _ _ _, HB.out⟩
  · have hsz := Pl.text_size hx
    rw [hx] at HU
    rcases hbl : b.any Pl.bl with _ | _
    · have HE := Lib.hid (Pl.aword_some hx hbl)
      have HBL := Lib.hid hbl
      clear hx hbl
      go_enter Tryd.func14, Tryd.ntmps14
      go_wp2_with (first | (go_at_call 25; refine HU.out.mono ?_; rintro e w1 ⟨v1, rfl, ho, hb⟩; have HB := Lib.hid hb; have HO := Lib.hid ho; obtain ⟨A, c, hv1⟩ := Kd.N_slice ho; subst hv1; clear ho hb; simp only [Option.isSome_some, Option.getD_some] at HO ⊢) | (go_at_call 26; refine (containsany_any _ b _ HO.out.rd (HT.out.below HB.out) (by omega) (by omega)).mono ?_; rintro e w2 ⟨rfl, hb2⟩; rw [HBL.out]))
      go_wp2_with fail
      go_ret2
      rw [OptSaid, HE.out]
      exact ⟨_, rfl, HO.out.below hb2, bthen HB.out hb2⟩
    · have HE := Lib.hid (Pl.aword_blank hx hbl)
      have HBL := Lib.hid hbl
      clear hx hbl
      go_enter Tryd.func14, Tryd.ntmps14
      go_wp2_with (first | (go_at_call 25; refine HU.out.mono ?_; rintro e w1 ⟨v1, rfl, ho, hb⟩; have HB := Lib.hid hb; have HO := Lib.hid ho; obtain ⟨A, c, hv1⟩ := Kd.N_slice ho; subst hv1; clear ho hb; simp only [Option.isSome_some, Option.getD_some] at HO ⊢) | (go_at_call 26; refine (containsany_any _ b _ HO.out.rd (HT.out.below HB.out) (by omega) (by omega)).mono ?_; rintro e w2 ⟨rfl, hb2⟩; rw [HBL.out]))
      go_wp2_with fail
      go_ret2
      rw [OptSaid, HE.out]
      exact ⟨_, rfl, Own.nil _ _ _ _, bthen HB.out hb2⟩

theorem bl_nat (c : UInt8) : Pl.bl c = true ↔ (c.toNat = 32 ∨ c.toNat = 9 ∨ c.toNat = 13 ∨ c.toNat = 10) := by
  have e : ∀ d : UInt8, (c == d) = true ↔ c.toNat = d.toNat := fun d => by rw [beq_iff_eq, UInt8.toNat_inj]
  simp only [Pl.bl, Bool.or_eq_true, e]
  constructor <;> intro h <;> simpa [or_assoc] using h

set_option maxRecDepth 100000 in
set_option maxHeartbeats 4000000 in
theorem rplain_any (v : Value) (l : List UInt8) (num : Bool) (w : World) (hv : Rd kb w v l) (hl : l.length ≤ 140737488355328) (ht : Tabs w) : Calls Tryd.prog 16 #[v, .bool num] w (OptSaid (Pl.aword l num) w) := by
  have HU := Lib.hid (rtext_all v l num w hv hl ht)
  clear hv ht
  rcases hx : Pl.text l num with _ | b
  · have HE := Lib.hid (Pl.aword_none hx)
    rw [hx] at HU
    clear hx
    go_enter Tryd.func16, Tryd.ntmps16
    go_wp2_with (go_at_call 28; refine HU.out.mono ?_; rintro e w1 ⟨v1, rfl, ho, hb⟩; have HB := Lib.hid hb; obtain ⟨A, c, hv1⟩ := Kd.N_slice ho; subst hv1; have HO := Lib.hid ho; clear ho hb; simp only [Option.isSome_none, Option.getD_none, List.length_nil] at HO ⊢)
    go_loop [8] (fun i => i = .int .i64 0) (fun _ => 0)
    case atStart => rfl
    case round =>
      subst hrel
      go_wp2_with fail
      go_ret2
      rw [OptSaid, HE.out]
      exact ⟨_, rfl, HO.out, HB.out⟩
  · have hsz := Pl.text_size hx
    rw [hx] at HU
    obtain ⟨n, hn⟩ : ∃ n, b.length = n := ⟨_, rfl⟩
    have HN := Lib.hid hn
    have HX := Lib.hid hx
    rw [hn] at hsz
    clear hn hx
    go_enter Tryd.func16, Tryd.ntmps16
    go_wp2_with (go_at_call 28; refine HU.out.mono ?_; rintro e w1 ⟨v1, rfl, ho, hb⟩; have HB := Lib.hid hb; have HO := Lib.hid ho; obtain ⟨ab, ao, cp, hv1, hcp, hcell⟩ := rd_plain ho.rd (by simp only [Option.getD_some]; rw [HN.out]; omega); subst hv1; have HC := Lib.hid hcell; clear ho hb hcell; simp only [Option.isSome_some, Option.getD_some] at HO HC hcp ⊢; rw [HN.out] at HO hcp ⊢)
    go_loop [8] (fun i => ∃ k : Nat, i = .int .i64 (k : Int) ∧ Aside0 (k ≤ n) ∧ Aside0 ((b.take k).any Pl.bl = false)) (fun i => n - (intOf i).toNat)
    case atStart => exact ⟨0, rfl, ⟨by omega⟩, ⟨by simp⟩⟩
    case round =>
      obtain ⟨k, rfl, hk, hno⟩ := hrel
      by_cases hlt : k < n
      · have q0 : (0 : Int) ≤ (k : Int) := by omega
        have q1 : (k : Int) < (n : Int) := by omega
        have hkl : k < b.length := by rw [HN.out]; exact hlt
        obtain ⟨c, hx⟩ : ∃ c, b.getD k 0 = c := ⟨_, rfl⟩
        have hc1 := HC.out k hkl
        rw [hx] at hc1
        obtain ⟨y, hy⟩ : ∃ y, c.toNat = y := ⟨_, rfl⟩
        rw [hy] at hc1
        have HX2 := Lib.hid (⟨hx, hy⟩ : b.getD k 0 = c ∧ c.toNat = y)
        have HKL := Lib.hid hkl
        have hw1 : IntKind.i64.wrap ((k : Int) + 1) = (k : Int) + 1 := IntWalk.i64_in _ (by omega)
        clear hx hy hkl
        by_cases h4 : y = 32 ∨ y = 9 ∨ y = 13 ∨ y = 10
        · have HE := Lib.hid (Pl.aword_blank HX.out (any_hit HKL.out (by rw [HX2.out.1, bl_nat, HX2.out.2]; exact h4)))
          rcases h4 with rfl | rfl | rfl | rfl
          all_goals go_wp2_with fail
          all_goals go_ret2
          all_goals rw [OptSaid, HE.out]
          all_goals exact ⟨_, rfl, Own.nil _ _ _ _, HB.out⟩
        · have e1 : ((y : Int) == 32) = false := by rw [beq_eq_false_iff_ne]; omega
          have e2 : ((y : Int) == 9) = false := by rw [beq_eq_false_iff_ne]; omega
          have e3 : ((y : Int) == 13) = false := by rw [beq_eq_false_iff_ne]; omega
          have e4 : ((y : Int) == 10) = false := by rw [beq_eq_false_iff_ne]; omega
          have HNB := Lib.hid (any_take HKL.out hno.out (by rw [HX2.out.1]; rcases hb : Pl.bl c with _ | _; rfl; exact absurd ((bl_nat c).1 hb) (by rw [HX2.out.2]; exact h4)))
          clear h4
          go_wp2_with fail
          go_round
          case rel => exact ⟨k + 1, by go_num, ⟨by omega⟩, ⟨HNB.out⟩⟩
          case measure => simp [intOf]; omega
      · obtain rfl : k = n := by have := hk.out; omega
        have HE := Lib.hid (Pl.aword_some HX.out (by have := hno.out; rwa [List.take_of_length_le (by rw [HN.out]; exact Nat.le_refl _)] at this))
        go_wp2_with fail
        go_ret2
        rw [OptSaid, HE.out]
        exact ⟨_, rfl, HO.out, HB.out⟩
end Go.Proofs.YtjdcejbblcbjpaaDoor
/-! bytes.Join of words by one blank. -/
set_option linter.unusedSimpArgs false
set_option linter.unusedVariables false
namespace Go.Proofs.YtjdcejbblcbjpaaDoor
open Go.RowKit Go.Proofs.YtjdcejbblcbjpaaDoorW.PrintWords Go.Proofs.YtjdcejbblcbjpaaDoorW.PrintLast Go.Proofs.YtjdcejbblcbjpaaDoorW.PrintMore

/-- The rows of a row of bytes. -/
theorem rows_get {w : World} {A : Option Addr} {n : Nat} {xs : List (List UInt8)} {ok : Nat → Prop} (h : Kd.F kBytes w ok A n xs) (i : Nat) (x : List UInt8) (hx : xs[i]? = some x) : ∃ ad A2 c2, A = some ad ∧ w.cell? (ad.add i) = some (.slice A2 x.length c2) ∧ Kd.V kb 0 w 0 ok (.slice A2 x.length c2) x := by
  obtain ⟨ad, cs, rfl, hK, hc⟩ := row_get h i x hx
  obtain ⟨A2, c2, rfl, hV⟩ := bytes_open hK
  have e0 := hc 0 _ rfl
  exact ⟨ad, A2, c2, rfl, by simpa [kBytes, Kd.slice] using e0, hV⟩
theorem list_of' {α : Type} (n : Nat) : ∀ (P : Nat → α → Prop), (∀ i, i < n → ∃ x, P i x) → ∃ l : List α, l.length = n ∧ ∀ (i : Nat) (x : α), l[i]? = some x → P i x := by
  induction n with
  | zero => exact fun P h => ⟨[], rfl, fun i x hx => by simp at hx⟩
  | succ n ih =>
    intro P h
    obtain ⟨x0, h0⟩ := h 0 (by omega)
    obtain ⟨l, hl, hp⟩ := ih (fun i => P (i + 1)) (fun i hi => h (i + 1) (by omega))
    refine ⟨x0 :: l, by simp [hl], fun i x hx => ?_⟩
    rcases i with _ | i
    · simp only [List.getElem?_cons_zero, Option.some.injEq] at hx
      subst hx
      exact h0
    · exact hp i x (by simpa using hx)
/-- Bytes as they lie are bytes that are read. -/
theorem rd_of_cells {W : World} {x : Addr} {len cap : Nat} {zs : List Int} (hl : len ≤ cap) (hm : cap ≤ maxLen) (hz : zs.length = cap) (hc : ∀ i, i < zs.length → W.cell? (x.add i) = some (.int .u8 (zs.getD i 0))) (hw : ∀ n ∈ zs, 0 ≤ n ∧ n < 256) :
    Rd kb W (.slice (some x) len cap) ((zs.take len).map fun n => UInt8.ofNat n.toNat) := by
  have hbl : ((zs.take len).map fun n => UInt8.ofNat n.toNat).length = len := by simp; omega
  refine ⟨some x, cap, by rw [hbl], by rw [hbl]; exact hl, ?_⟩
  refine Kd.F_mono (ok := fun k => k < W.heap.size) (Kd.C_F Kd.heap_scalar ⟨rfl, by rw [hbl]; unfold maxLen at hm; omega, fun hp => ⟨x, rfl, fun j p hp => ?_⟩⟩) (fun _ _ => trivial)
  obtain ⟨hj, hp'⟩ := List.getElem?_eq_some_iff.1 hp
  rw [hbl] at hj
  refine ⟨[.int .u8 (p.toNat : Int)], rfl, rfl, fun i u hu => ?_⟩
  rcases i with _ | i
  · simp only [List.getElem?_cons_zero, Option.some.injEq] at hu
    subst hu
    have h1 := hc j (by omega)
    have h2 := hw (zs.getD j 0) (by
      rw [List.getD_eq_getElem?_getD, List.getElem?_eq_getElem (by omega)]
      exact List.getElem_mem _)
    simp only [kb, Kd.scalar, Nat.mul_one, Nat.add_zero]
    rw [h1]
    rw [List.getElem_map, List.getElem_take] at hp'
    rw [List.getD_eq_getElem?_getD, List.getElem?_eq_getElem (by omega)] at h2 ⊢
    simp only [Option.getD_some] at h2 ⊢
    rw [← hp']
    congr 2
    simp
    omega
  · simp at hu
theorem fresh_rd {B : Nat} {w : World} {v : Value} {l : List UInt8} (h : Lib.FreshBytes B w v l) : Rd kb w v l := by
  obtain ⟨g, cap, zs, rfl, _, hl, hm, hz, hr, hb, hc, _⟩ := h
  have := rd_of_cells (W := w) (x := ⟨g, 0, none⟩) (len := l.length) (cap := cap) (zs := zs) hl hm hz (fun i hi => by rw [add_plain]; exact hc i (by omega)) hr
  rw [show ((zs.take l.length).map fun n => UInt8.ofNat n.toNat) = l from hb] at this
  exact this
theorem holds_of_rd {w : World} {v : Value} {l : List UInt8} (h : Rd kb w v l) : Lib.HoldsBytes w v l := by
  obtain ⟨A, c, rfl, hc, hF⟩ := h
  refine ⟨A, c, rfl, fun hA => ?_, fun a ha i x hx => ?_⟩
  · rcases l with _ | ⟨x, l⟩
    · rfl
    · obtain ⟨ad, he, _⟩ := kb_cell hF 0 (by simp)
      rw [hA] at he
      cases he
  · subst ha
    obtain ⟨hi, hx'⟩ := List.getElem?_eq_some_iff.1 hx
    have := kb_cell' hF i hi
    rw [this]
    simp [List.getD, hx]
theorem join_any (vw vs : Value) (ls : List (List UInt8)) (w : World) (hw : Rd kBytes w vw ls) (hs : Rd kb w vs [32]) (h1 : 1 ≤ ls.length) (hn : ls.length ≤ 21) (hl : ∀ l ∈ ls, 1 ≤ l.length ∧ l.length ≤ 32) :
    Calls Tryd.prog 15 #[vw, vs] w fun e w' => ∃ v', e = .returned v' ∧ Rd kb w' v' (Lib.join ls [32]) ∧ Below w.heap.size w w' := by
  obtain ⟨A, c, rfl, hc, hF⟩ := hw
  obtain ⟨x0, hx0⟩ : ∃ x, ls[0]? = some x := ⟨_, List.getElem?_eq_getElem (by omega)⟩
  obtain ⟨ad, A0, c0, rfl, hcell0, hV0⟩ := rows_get hF 0 x0 hx0
  obtain ⟨b, off, sp⟩ := ad
  have hsp : sp = none := by
    rcases sp with _ | x
    · rfl
    · exfalso
      unfold World.cell? Addr.add at hcell0
      split at hcell0 <;> simp at hcell0
  subst hsp
  have hparts : ∀ i, i < ls.length → ∃ v : Value, w.cell? ((⟨b, off, none⟩ : Addr).add i) = some v ∧ ∀ l, ls[i]? = some l → Lib.HoldsBytes w v l := fun i hi => by
    obtain ⟨ad, A2, c2, he, hcell, hV⟩ := rows_get hF i _ (List.getElem?_eq_getElem hi)
    injection he with he
    subst he
    refine ⟨_, hcell, fun l hl => ?_⟩
    rw [List.getElem?_eq_getElem hi] at hl
    injection hl with hl
    subst hl
    exact holds_of_rd (Kd.V_mono hV fun _ _ => trivial)
  obtain ⟨vls, hvl, hvp⟩ := list_of' ls.length (fun i v => w.cell? ((⟨b, off, none⟩ : Addr).add i) = some v ∧ ∀ l, ls[i]? = some l → Lib.HoldsBytes w v l) hparts
  have hlen : ∀ r : List (List UInt8), (∀ l ∈ r, l.length ≤ 32) → Lib.lens r ≤ 32 * r.length := by
    intro r
    induction r with
    | nil => simp [Lib.lens]
    | cons l r ih =>
      intro h
      have h2 := ih fun x hx => h x (List.mem_cons_of_mem _ hx)
      have h3 := h l List.mem_cons_self
      simp only [Lib.lens, List.map_cons, List.sum_cons, List.length_cons] at h2 ⊢
      omega
  by_cases h2 : 2 ≤ ls.length
  · have hL := hlen ls fun l hh => (hl l hh).2
    refine (Any.bytes_Join_many Tryd.laysJ14 b off ls.length c vls ls vs [32] w rfl h2 ⟨hvl, fun i v hv => (hvp i v hv).1, fun i v l hv hll => (hvp i v hv).2 l hll⟩ hc (holds_of_rd hs) (by omega) (by simp; omega)).mono ?_
    rintro e w' ⟨v', rfl, hf, hb⟩
    exact ⟨v', rfl, fresh_rd hf, hb⟩
  · obtain ⟨y, rfl⟩ : ∃ y, ls = [y] := List.length_eq_one_iff.1 (by omega)
    simp only [List.getElem?_cons_zero, Option.some.injEq] at hx0
    subst hx0
    have hy := hl y (by simp)
    obtain ⟨A3, c3, he, hc3, hF3⟩ := id hV0
    injection he with e1 e2 e3
    subst e1
    obtain ⟨ad2, rfl, _⟩ := kb_cell hF3 0 (by omega)
    rw [Lib.add_plain2, Nat.add_zero] at hcell0
    refine (Any.bytes_Join_one Tryd.laysJ14 b off c ad2 c0 y vs w hcell0 (fun i x hx => ?_) (by omega) (by omega)).mono ?_
    · obtain ⟨hi, hx'⟩ := List.getElem?_eq_some_iff.1 hx
      rw [kb_cell' hF3 i hi]
      simp [List.getD, hx]
    · rintro e w' ⟨v', rfl, hf, hb⟩
      rw [Lib.join_one]
      exact ⟨v', rfl, fresh_rd hf, hb⟩
end Go.Proofs.YtjdcejbblcbjpaaDoor
