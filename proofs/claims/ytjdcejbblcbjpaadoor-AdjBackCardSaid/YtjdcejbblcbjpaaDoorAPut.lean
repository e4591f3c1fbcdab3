import Derived.Test.YtjdcejbblcbjpaaDoorBJoin
/-! creelref09.Put, adj.Put. -/
set_option linter.unusedSimpArgs false
set_option linter.unusedVariables false
namespace Go.Proofs.YtjdcejbblcbjpaaDoor
open Go.RowKit Go.Proofs.YtjdcejbblcbjpaaDoorW.PrintWords Go.Proofs.YtjdcejbblcbjpaaDoorW.PrintLast Go.Proofs.YtjdcejbblcbjpaaDoorW.PrintMore

/-- the words that labels are -/
def Pl.awl (ts : List (List UInt8)) (num : Bool) : List (List UInt8) := ts.map fun l => (Pl.aword l num).getD []
def Pl.awBad (ts : List (List UInt8)) (num : Bool) : Bool := ts.any fun l => (Pl.aword l num).isNone
/-- a vertex and its neighbours as a line -/
def Pl.aput (v : List UInt8) (ts : List (List UInt8)) (num : Bool) : Option (List UInt8) :=
  (Pl.aword v num).bind fun f => if f.getD 0 0 = 35 then none else if Pl.awBad ts num then none else some (f ++ Lib.joinTail [32] (Pl.awl ts num))
theorem Pl.aput_none {v : List UInt8} {ts : List (List UInt8)} {num : Bool} (h : Pl.aword v num = none) : Pl.aput v ts num = none := by rw [Pl.aput, h]; rfl
theorem Pl.aput_hash {v f : List UInt8} {ts : List (List UInt8)} {num : Bool} (h : Pl.aword v num = some f) (h1 : f.getD 0 0 = 35) : Pl.aput v ts num = none := by rw [Pl.aput, h]; exact if_pos h1
theorem Pl.aput_bad {v f : List UInt8} {ts : List (List UInt8)} {num : Bool} (h : Pl.aword v num = some f) (h1 : ¬ f.getD 0 0 = 35) (h2 : Pl.awBad ts num = true) : Pl.aput v ts num = none := by rw [Pl.aput, h]; exact (if_neg h1).trans (if_pos h2)
theorem Pl.aput_some {v f : List UInt8} {ts : List (List UInt8)} {num : Bool} (h : Pl.aword v num = some f) (h1 : ¬ f.getD 0 0 = 35) (h2 : Pl.awBad ts num = false) : Pl.aput v ts num = some (f ++ Lib.joinTail [32] (Pl.awl ts num)) := by rw [Pl.aput, h]; exact (if_neg h1).trans (if_neg (by rw [h2]; decide))
theorem Pl.awBad_at {ts : List (List UInt8)} {num : Bool} {k : Nat} {l : List UInt8} (hl : ts[k]? = some l) (h : Pl.aword l num = none) : Pl.awBad ts num = true := by
  rw [Pl.awBad, List.any_eq_true]
  exact ⟨l, List.mem_of_getElem? hl, by rw [h]; rfl⟩
theorem Pl.awBad_next {ts : List (List UInt8)} {num : Bool} {k : Nat} {l b : List UInt8} (hl : ts[k]? = some l) (h : Pl.aword l num = some b) (h1 : Pl.awBad (ts.take k) num = false) : Pl.awBad (ts.take (k + 1)) num = false := by
  rw [List.take_add_one, hl]
  simp only [Pl.awBad, Option.toList, List.any_append, List.any_cons, List.any_nil, Bool.or_false] at h1 ⊢
  rw [h1, h]
  rfl
theorem Pl.awl_next {ts : List (List UInt8)} {num : Bool} {k : Nat} {l b : List UInt8} (hl : ts[k]? = some l) (h : Pl.aword l num = some b) : Pl.awl (ts.take (k + 1)) num = Pl.awl (ts.take k) num ++ [b] := by
  rw [List.take_add_one, hl]
  simp [Pl.awl, h]
theorem Pl.tail_next (r : List (List UInt8)) (b : List UInt8) : Lib.joinTail [32] (r ++ [b]) = Lib.joinTail [32] r ++ [32] ++ b := by
  simp [Lib.joinTail]
theorem Pl.awl_len (ts : List (List UInt8)) (num : Bool) : (Pl.awl ts num).length = ts.length := by simp [Pl.awl]
theorem Pl.tail_len (ts : List (List UInt8)) (num : Bool) : (Lib.joinTail [32] (Pl.awl ts num)).length ≤ 33 * ts.length := by
  induction ts with
  | nil => simp [Pl.awl, Lib.joinTail]
  | cons l r ih =>
    have h1 : ((Pl.aword l num).getD []).length ≤ 32 := by
      rcases h : Pl.aword l num with _ | b
      · simp
      · exact (Pl.aword_size h).2
    simp only [Pl.awl, Lib.joinTail, List.map_cons, List.flatten_cons, List.length_append, List.length_cons, List.length_nil] at ih ⊢
    omega
set_option maxRecDepth 100000 in
set_option maxHeartbeats 4000000 in
theorem raput_any (va vt : Value) (a : List UInt8) (ts : List (List UInt8)) (num : Bool) (w : World) (ha : Rd kb w va a) (hto : Rd kBytes w vt ts) (hal : a.length ≤ 140737488355328) (htl : ts.length ≤ 20) (hll : ∀ l ∈ ts, l.length ≤ 140737488355328) (ht : Tabs w) :
    Calls Tryd.prog 8 #[va, vt, .bool num] w (OptSaid (Pl.aput a ts num) w) := by
  have HT := Lib.hid ht
  have HP := Lib.hid (rplain_any va a num w ha hal ht)
  have HTO := Lib.hid hto
  obtain ⟨At, ct, rfl, hct, hF⟩ := hto
  have HF := Lib.hid hF
  have HLL := Lib.hid hll
  clear ha ht hF hll
  rcases hx : Pl.aword a num with _ | f
  · have HE := Lib.hid (Pl.aput_none (ts := ts) hx)
    rw [hx] at HP
    clear hx
    go_enter Tryd.func8, Tryd.ntmps8
    go_wp2_with fail
    refine HP.out.mono ?_
    rintro e w1 ⟨v1, rfl, ho, hb⟩
    have HB := Lib.hid hb
    obtain ⟨A, c, hv1⟩ := Kd.N_slice ho
    subst hv1
    clear ho hb
    simp only [Option.isSome_none, Option.getD_none, List.length_nil]
    go_wp2_with fail
    go_ret2
    rw [OptSaid, HE.out]
    exact ⟨_, rfl, Own.nil _ _ _ _, HB.out⟩
  · have hsz := Pl.aword_size hx
    rw [hx] at HP
    have HX := Lib.hid hx
    obtain ⟨c0, hc0⟩ : ∃ c0, f.getD 0 0 = c0 := ⟨_, rfl⟩
    have HC0 := Lib.hid hc0
    obtain ⟨y0, hy0⟩ : ∃ y0, c0.toNat = y0 := ⟨_, rfl⟩
    have HY0 := Lib.hid hy0
    have HSZ := Lib.hid hsz
    clear hx hc0 hy0 hsz
    go_enter Tryd.func8, Tryd.ntmps8
    by_cases h35 : y0 = 35
    · have HE := Lib.hid (Pl.aput_hash (ts := ts) HX.out (by rw [HC0.out]; exact UInt8.toNat_inj.1 (by rw [HY0.out, h35]; rfl)))
      go_wp2_with fail
      refine HP.out.mono ?_
      rintro e w1 ⟨v1, rfl, ho, hb⟩
      have HB := Lib.hid hb
      obtain ⟨ab, ao, cp, hv1, hcp, hcell⟩ := rd_plain ho.rd (by simp only [Option.getD_some]; have := HSZ.out; omega)
      subst hv1
      have hc1 := hcell 0 (by simp only [Option.getD_some]; have := HSZ.out; omega)
      simp only [Option.isSome_some, Option.getD_some] at hc1 ⊢
      rw [HC0.out, HY0.out, h35] at hc1
      rw [Nat.add_zero] at hc1
      have hf0 : (0 : Int) < (f.length : Int) := by (have := HSZ.out; omega)
      clear ho hb hcell
      go_wp2_with fail
      go_ret2
      rw [OptSaid, HE.out]
      exact ⟨_, rfl, Own.nil _ _ _ _, HB.out⟩
    · have e35 : ((y0 : Int) == 35) = false := by rw [beq_eq_false_iff_ne]; omega
      have HN35 := Lib.hid (show ¬ f.getD 0 0 = 35 from fun h => h35 (by rw [← HY0.out, ← HC0.out, h]; rfl))
      go_wp2_with fail
      refine HP.out.mono ?_
      rintro e w1 ⟨v1, rfl, ho, hb⟩
      have HB := Lib.hid hb
      have HO := Lib.hid ho
      obtain ⟨ab, ao, cp, hv1, hcp, hcell⟩ := rd_plain ho.rd (by simp only [Option.getD_some]; have := HSZ.out; omega)
      subst hv1
      have hc1 := hcell 0 (by simp only [Option.getD_some]; have := HSZ.out; omega)
      simp only [Option.isSome_some, Option.getD_some] at hc1 HO ⊢
      rw [HC0.out, HY0.out] at hc1
      rw [Nat.add_zero] at hc1
      have hf0 : (0 : Int) < (f.length : Int) := by (have := HSZ.out; omega)
      clear ho hb hcell
      go_wp2_with fail
      go_loopw [8, 10, 11, 12] (fun b i x y wr => ∃ k : Nat, i = .int .i64 (k : Int) ∧ Aside0 (k ≤ ts.length) ∧ Aside0 (Pl.awBad (ts.take k) num = false) ∧ Aside0 (Own kb 5 wr w.heap.size b (f ++ Lib.joinTail [32] (Pl.awl (ts.take k) num))) ∧ Aside0 (Below w.heap.size w wr)) (fun _ i _ _ _ => ts.length - (intOf i).toNat)
      case atStart => exact ⟨0, rfl, ⟨by omega⟩, ⟨rfl⟩, ⟨by simpa [Pl.awl, Lib.joinTail] using HO.out⟩, ⟨HB.out⟩⟩
      case round =>
        obtain ⟨k, rfl, hk, hbad, HOO, HBB⟩ := hrel
        obtain ⟨L, hL⟩ : ∃ L, f ++ Lib.joinTail [32] (Pl.awl (ts.take k) num) = L := ⟨_, rfl⟩
        have hLl : L.length ≤ 4096 := by
          rw [← hL, List.length_append]
          have h1 := Pl.tail_len (ts.take k) num
          have h2 : (ts.take k).length ≤ 20 := by rw [List.length_take]; omega
          have := HSZ.out
          omega
        have hLp : 1 ≤ L.length := by rw [← hL, List.length_append]; have := HSZ.out; omega
        rw [hL] at HOO
        have HL := Lib.hid hL
        have HLP := Lib.hid hLp
        obtain ⟨gb, cb, hvb, hgb0, hgb⟩ := own_form HOO.out (by omega)
        subst hvb
        clear hL hLp
        by_cases hlt : k < ts.length
        · have q0 : (0 : Int) ≤ (k : Int) := by omega
          have q1 : (k : Int) < (ts.length : Int) := by omega
          have hw1 : IntKind.i64.wrap ((k : Int) + 1) = (k : Int) + 1 := IntWalk.i64_in _ (by omega)
          obtain ⟨l, hl⟩ : ∃ l, ts[k]? = some l := ⟨_, List.getElem?_eq_getElem hlt⟩
          obtain ⟨ad, A2, c2, rfl, hcell, hV⟩ := rows_get HF.out k l hl
          have hc2 := cell_below HBB.out hcell
          have HV := Lib.hid (Rd.below (Kd.V_mono hV fun _ _ => trivial) HBB.out : Rd kb wr (.slice A2 l.length c2) l)
          have HLM := Lib.hid (HLL.out l (List.mem_of_getElem? hl))
          have HLK := Lib.hid hl
          clear hcell hV hl
          go_wp2_with fail
          refine (rplain_any _ l num wr HV.out HLM.out (HT.out.below HBB.out)).mono ?_
          rintro e w3 ⟨v3, rfl, ho3, hb3⟩
          have HB3 := Lib.hid (bthen HBB.out hb3)
          rcases hx : Pl.aword l num with _ | x
          · have HE := Lib.hid (Pl.aput_bad HX.out HN35.out (Pl.awBad_at HLK.out hx))
            rw [hx] at ho3
            obtain ⟨A3, c3, hv3⟩ := Kd.N_slice ho3
            subst hv3
            clear ho3 hb3 hx
            simp only [Option.isSome_none, Option.getD_none, List.length_nil]
            go_wp2_with fail
            go_ret2
            rw [OptSaid, HE.out]
            exact ⟨_, rfl, Own.nil _ _ _ _, HB3.out⟩
          · have hxs := Pl.aword_size hx
            have HNX := Lib.hid (show Pl.awBad (ts.take (k + 1)) num = false ∧ L ++ [32] ++ x = f ++ Lib.joinTail [32] (Pl.awl (ts.take (k + 1)) num) from ⟨Pl.awBad_next HLK.out hx hbad.out, by rw [Pl.awl_next HLK.out hx, Pl.tail_next, ← HL.out]; simp⟩)
            rw [hx] at ho3
            simp only [Option.isSome_some, Option.getD_some] at ho3 ⊢
            obtain ⟨g3, c3, hv3, hg30, hg3⟩ := own_form ho3 (by omega)
            subst hv3
            have HO3 := Lib.hid ho3
            have HO7 := Lib.hid (HOO.out.below hb3)
            have hxl : x.length ≤ 32 := hxs.2
            have HNE := Lib.hid (show (Value.slice (some ⟨gb, 0, none⟩) L.length cb).ownBlock ≠ (Value.slice (some ⟨g3, 0, none⟩) x.length c3).ownBlock by
              intro h
              have h2 : gb = g3 := by simpa [Value.ownBlock] using h
              omega)
            clear ho3 hb3 hx hxs
            go_wp2_with (first | ((with_reducible refine gate_builtin (b := .append) (xs := #[.tmp 44, .tmp 45]) rfl ?_); at_builtin; (refine app1 (w0 := w) w.heap.size rfl (.tmp 44) (.tmp 45) rfl _ L 32 32 rfl rfl rfl HO7.out HB3.out HB3.out.size (by omega) ?_; intro v5 w5 ho5 hb5 hg5 hat5; have HO5 := Lib.hid ho5; have HB5 := Lib.hid hb5; have HX5 := Lib.hid (Kd.R_N (Kd.R_grown1 (own_R HO3.out) rfl hg5 HNE.out)); clear ho5 hb5 hg5 hat5)) | ((with_reducible refine gate_builtin (b := .append) (xs := #[.tmp 46, .tmp 47]) rfl ?_); at_builtin; (refine appN (w0 := w) w.heap.size rfl (.tmp 46) (.tmp 47) rfl _ _ (L ++ [32]) x rfl rfl HO5.out (n_rd HX5.out) HB5.out HB5.out.size (by simp; omega) ?_; intro v6 w6 ho6 hb6 hg6 hat6; rw [HNX.out.2] at ho6; have HO6 := Lib.hid ho6; have HB6 := Lib.hid hb6; clear ho6 hb6 hg6 hat6)))
            go_roundw
            case rel => exact ⟨k + 1, by go_num, ⟨by omega⟩, ⟨HNX.out.1⟩, ⟨HO6.out⟩, ⟨HB6.out⟩⟩
            case measure => simp [intOf]; omega
        · obtain rfl : k = ts.length := by have := hk.out; omega
          have HE := Lib.hid (Pl.aput_some HX.out HN35.out (by have := hbad.out; rwa [List.take_of_length_le (Nat.le_refl _)] at this))
          have HLL2 := Lib.hid (show f ++ Lib.joinTail [32] (Pl.awl ts num) = L by rw [← HL.out, List.take_of_length_le (Nat.le_refl _)])
          go_wp2_with fail
          go_ret2
          rw [OptSaid, HE.out, HLL2.out]
          exact ⟨_, rfl, HOO.out, HBB.out⟩
end Go.Proofs.YtjdcejbblcbjpaaDoor
/-! adj.Put. -/
set_option linter.unusedSimpArgs false
set_option linter.unusedVariables false
namespace Go.Proofs.YtjdcejbblcbjpaaDoor
open Go.RowKit Go.Proofs.YtjdcejbblcbjpaaDoorW.PrintWords Go.Proofs.YtjdcejbblcbjpaaDoorW.PrintLast Go.Proofs.YtjdcejbblcbjpaaDoorW.PrintMore

def PutSaid (o : Option (List UInt8)) (w : World) (e : Ending) (w' : World) : Prop := ∃ v' : Value, e = .returned (.tuple #[v', .bool o.isSome]) ∧ Rd kb w' v' (o.getD []) ∧ Below w.heap.size w w'
/-- A row of one row of bytes. -/
theorem lit_bytes (w : World) (base : Nat) (A : Option Addr) (c : Nat) (x : List UInt8) (hx : Kd.V kb 0 w 0 (fun k => base ≤ k) (.slice A x.length c) x) (hb : base ≤ w.heap.size) :
    Own kBytes 22 (w.alloc (.cells #[.slice A x.length c] 22)) base (.slice (some ⟨w.heap.size, 0, none⟩) 1 1) [x] := by
  have hV : Kd.V kb 0 (w.alloc (.cells #[.slice A x.length c] 22)) 0 (fun k => base ≤ k ∧ some k ≠ (Value.slice (some ⟨w.heap.size, 0, none⟩) 1 1).ownBlock) (.slice A x.length c) x := by
    obtain ⟨A', c', he, hc, hF⟩ := hx
    refine ⟨A', c', he, hc, Kd.F_mono (Kd.F_below (Kd.F_bound hF) (below_alloc (Below.refl _ _) _)) (fun k hk => ⟨hk.1, fun h => ?_⟩)⟩
    have : k = w.heap.size := by simpa [Value.ownBlock] using h
    have := hk.2
    omega
  refine ⟨fun k hk => ?_, [[.slice A x.length c]], rfl, ⟨fun k hk => hk.symm, [.slice A x.length c], World.ownsRow_lit (size := 1) w #[.slice A x.length c] 1 hb (by decide) rfl, rfl, fun j p hp => ?_⟩, fun j y cs hy hc => ?_⟩
  · have : w.heap.size = k := by simpa [Value.ownBlock] using hk
    omega
  · rcases j with _ | j
    · simp only [List.getElem?_cons_zero, Option.some.injEq] at hp
      subst hp
      exact ⟨rfl, rfl, fun u hu => by rw [List.mem_singleton.1 hu]; rfl⟩
    · simp at hp
  · rcases j with _ | j
    · simp only [List.getElem?_cons_zero, Option.some.injEq] at hy hc
      subst hy hc
      exact bytes_FK hV
    · simp at hy

theorem Pl.awl_size {ts : List (List UInt8)} {num : Bool} (h : Pl.awBad ts num = false) : ∀ x ∈ Pl.awl ts num, 1 ≤ x.length ∧ x.length ≤ 32 := by
  intro x hx
  obtain ⟨l, hl, rfl⟩ := List.mem_map.1 hx
  have h1 := List.any_eq_false.1 h l hl
  rcases hw : Pl.aword l num with _ | b
  · rw [hw] at h1; exact absurd rfl h1
  · exact Pl.aword_size hw

set_option maxRecDepth 100000 in
set_option maxHeartbeats 4000000 in
theorem aput_any (va vt : Value) (a : List UInt8) (ts : List (List UInt8)) (num : Bool) (w : World) (ha : Rd kb w va a) (hto : Rd kBytes w vt ts) (hal : a.length ≤ 140737488355328) (htl : ts.length ≤ 20) (hll : ∀ l ∈ ts, l.length ≤ 140737488355328) (ht : Tab3 w) :
    Calls Tryd.prog 5 #[va, vt, .bool num] w (PutSaid (Pl.aput a ts num) w) := by
  have HT := Lib.hid ht
  have HP := Lib.hid (aword_any va a num w ha hal ht)
  have HTO := Lib.hid hto
  obtain ⟨At, ct, rfl, hct, hF⟩ := hto
  have HF := Lib.hid hF
  have HLL := Lib.hid hll
  clear ha ht hF hll
  rcases hx : Pl.aword a num with _ | f
  · have HE := Lib.hid (Pl.aput_none (ts := ts) hx)
    rw [hx] at HP
    clear hx
    go_enter Tryd.func5, Tryd.ntmps5
    go_wp2_with fail
    refine HP.out.mono ?_
    rintro e w1 ⟨v1, rfl, ho, hb⟩
    have HB := Lib.hid hb
    obtain ⟨A, c, hv1⟩ := Kd.N_slice ho
    subst hv1
    clear ho hb
    simp only [Option.isSome_none, Option.getD_none, List.length_nil]
    go_wp2_with fail
    go_ret2
    rw [PutSaid, HE.out]
    exact ⟨_, rfl, Rd.nil _ _, HB.out⟩
  · have hsz := Pl.aword_size hx
    rw [hx] at HP
    have HX := Lib.hid hx
    obtain ⟨c0, hc0⟩ : ∃ c0, f.getD 0 0 = c0 := ⟨_, rfl⟩
    have HC0 := Lib.hid hc0
    obtain ⟨y0, hy0⟩ : ∃ y0, c0.toNat = y0 := ⟨_, rfl⟩
    have HY0 := Lib.hid hy0
    have HSZ := Lib.hid hsz
    clear hx hc0 hy0 hsz
    go_enter Tryd.func5, Tryd.ntmps5
    go_wp2_with fail
    refine HP.out.mono ?_
    rintro e w1 ⟨v1, rfl, ho, hb⟩
    have HB := Lib.hid hb
    have HO := Lib.hid ho
    obtain ⟨gf, cf, hv1, hgf0, hgf⟩ := own_form ho (by simp only [Option.getD_some]; have := HSZ.out; omega)
    subst hv1
    simp only [Option.isSome_some, Option.getD_some] at HO ⊢
    obtain ⟨hc1, _⟩ := own_cell HO.out 0 (by have := HSZ.out; omega)
    rw [HC0.out, HY0.out] at hc1
    have hf0 : (0 : Int) < (f.length : Int) := by have := HSZ.out; omega
    clear ho hb
    by_cases h35 : y0 = 35
    · have HE := Lib.hid (Pl.aput_hash (ts := ts) HX.out (by rw [HC0.out]; exact UInt8.toNat_inj.1 (by rw [HY0.out, h35]; rfl)))
      subst h35
      go_wp2_with fail
      go_ret2
      rw [PutSaid, HE.out]
      exact ⟨_, rfl, Rd.nil _ _, HB.out⟩
    · have e35 : ((y0 : Int) == 35) = false := by rw [beq_eq_false_iff_ne]; omega
      have HN35 := Lib.hid (show ¬ f.getD 0 0 = 35 from fun h => h35 (by rw [← HY0.out, ← HC0.out, h]; rfl))
      go_wp2_with fail
      go_loopw [10, 12, 13, 14, 33] (fun u x y z i wr => ∃ k : Nat, i = .int .i64 (k : Int) ∧ Aside0 (k ≤ ts.length) ∧ Aside0 (Pl.awBad (ts.take k) num = false) ∧ Aside0 (Own kBytes 22 wr w.heap.size u (f :: Pl.awl (ts.take k) num)) ∧ Aside0 (Below w.heap.size w wr)) (fun _ _ _ _ i _ => ts.length - (intOf i).toNat)
      case atStart => exact ⟨0, rfl, ⟨by omega⟩, ⟨rfl⟩, ⟨lit_bytes w1 w.heap.size _ cf f HO.out.v HB.out.size⟩, ⟨below_alloc HB.out _⟩⟩
      case round =>
        obtain ⟨k, rfl, hk, hbad, HOO, HBB⟩ := hrel
        obtain ⟨L, hL⟩ : ∃ L, f :: Pl.awl (ts.take k) num = L := ⟨_, rfl⟩
        have hLl : L.length ≤ 21 := by
          rw [← hL, List.length_cons, Pl.awl_len, List.length_take]
          omega
        have hLp : 1 ≤ L.length := by rw [← hL, List.length_cons]; omega
        rw [hL] at HOO
        have HL := Lib.hid hL
        obtain ⟨gb, cb, hvb, _, hgb, _⟩ := Kd.N_form HOO.out (by omega)
        subst hvb
        clear hL
        by_cases hlt : k < ts.length
        · have q0 : (0 : Int) ≤ (k : Int) := by omega
          have q1 : (k : Int) < (ts.length : Int) := by omega
          have hw1 : IntKind.i64.wrap ((k : Int) + 1) = (k : Int) + 1 := IntWalk.i64_in _ (by omega)
          obtain ⟨l, hl⟩ : ∃ l, ts[k]? = some l := ⟨_, List.getElem?_eq_getElem hlt⟩
          obtain ⟨ad, A2, c2, rfl, hcell, hV⟩ := rows_get HF.out k l hl
          have hc2 := cell_below HBB.out hcell
          have HV := Lib.hid (Rd.below (Kd.V_mono hV fun _ _ => trivial) HBB.out : Rd kb wr (.slice A2 l.length c2) l)
          have HLM := Lib.hid (HLL.out l (List.mem_of_getElem? hl))
          have HLK := Lib.hid hl
          clear hcell hV hl
          go_wp2_with fail
          refine (aword_any _ l num wr HV.out HLM.out (HT.out.below HBB.out)).mono ?_
          rintro e w3 ⟨v3, rfl, ho3, hb3⟩
          have HB3 := Lib.hid (bthen HBB.out hb3)
          rcases hx : Pl.aword l num with _ | x
          · have HE := Lib.hid (Pl.aput_bad HX.out HN35.out (Pl.awBad_at HLK.out hx))
            rw [hx] at ho3
            obtain ⟨A3, c3, hv3⟩ := Kd.N_slice ho3
            subst hv3
            clear ho3 hb3 hx
            simp only [Option.isSome_none, Option.getD_none, List.length_nil]
            go_wp2_with fail
            go_ret2
            rw [PutSaid, HE.out]
            exact ⟨_, rfl, Rd.nil _ _, HB3.out⟩
          · have hxs := Pl.aword_size hx
            have HNX := Lib.hid (show Pl.awBad (ts.take (k + 1)) num = false ∧ L ++ [x] = f :: Pl.awl (ts.take (k + 1)) num from ⟨Pl.awBad_next HLK.out hx hbad.out, by rw [Pl.awl_next HLK.out hx, ← HL.out]; simp⟩)
            rw [hx] at ho3
            simp only [Option.isSome_some, Option.getD_some] at ho3 ⊢
            obtain ⟨A4, c4, hv3⟩ := Kd.N_slice ho3
            subst hv3
            have HOA := Lib.hid ho3
            have HBW := Lib.hid hb3
            clear ho3 hb3 hx hxs
            go_wp2_with ((with_reducible refine gate_builtin (b := .append) (xs := #[.tmp 45, .tmp 47]) rfl ?_); at_builtin; refine Kd.N_append kBytes (w0 := w) w.heap.size rfl (.tmp 45) (.tmp 47) 23 22 (.slice none 0 0) 24 rfl Tryd.underlying23 infoBytes rfl (by decide) (by omega) _ L x [.slice A4 x.length c4] (fun k => w.heap.size ≤ k) (fun k => wr.heap.size ≤ k) rfl rfl ?aP ?aQ ?aF ?aO ?aB ?aS ?aL ?_; (case aP => exact bytes_FK HOA.out.v); (case aQ => exact fun j hj => ⟨Nat.le_trans HBB.out.size hj, fun he => by have := HOO.out.lt j he.symm; omega⟩); (case aF => exact fun j hj => Nat.le_trans (Nat.le_trans HBB.out.size HBW.out.size) hj); (case aO => exact HOO.out.below HBW.out); (case aB => exact bthen HBB.out HBW.out); (case aS => exact Nat.le_trans HBB.out.size HBW.out.size); (case aL => omega); intro v9 w9 ho9 hb9 hg9 hat9)
            go_roundw
            case rel => exact ⟨k + 1, by go_num, ⟨by omega⟩, ⟨HNX.out.1⟩, ⟨by rw [← HNX.out.2]; exact ho9⟩, ⟨hb9⟩⟩
            case measure => simp [intOf]; omega
        · obtain rfl : k = ts.length := by have := hk.out; omega
          have hbd : Pl.awBad ts num = false := by have := hbad.out; rwa [List.take_of_length_le (Nat.le_refl _)] at this
          have HE := Lib.hid (Pl.aput_some HX.out HN35.out hbd)
          have HLE := Lib.hid (show f :: Pl.awl ts num = L by rw [← HL.out, List.take_of_length_le (Nat.le_refl _)])
          have HSS := Lib.hid (show ∀ l ∈ L, 1 ≤ l.length ∧ l.length ≤ 32 by
            intro l hl
            rw [← HLE.out] at hl
            rcases List.mem_cons.1 hl with rfl | hl
            · exact HSZ.out
            · exact Pl.awl_size hbd l hl)
          have HRL := Lib.hid (n_rd HOO.out)
          clear hbd
          go_wp2_with fail
          refine calls_at fun W4 hW4 => ?_
          have hb4 : Below wr.heap.size wr W4 := by rw [← hW4]; exact below_alloc (Below.refl _ _) _
          have hs4 : Rd kb W4 (.slice (some ⟨wr.heap.size, 0, none⟩) 1 1) [32] := by rw [← hW4]; exact (lit_own wr wr.heap.size [32] [.int .u8 32] rfl (Nat.le_refl _) (by simp)).rd
          have HB4 := Lib.hid (bthen HBB.out hb4)
          refine (join_any _ _ L W4 (Rd.below HRL.out hb4) hs4 hLp hLl HSS.out).mono ?_
          rintro e w5 ⟨v5, rfl, hr5, hb5⟩
          have HR5 := Lib.hid hr5
          have HB5 := Lib.hid (bthen HB4.out hb5)
          clear hW4 hb4 hs4 hr5 hb5
          go_wp2_with fail
          go_ret2
          rw [PutSaid, HE.out]
          refine ⟨_, rfl, ?_, HB5.out⟩
          have := HR5.out
          rw [← HLE.out, Lib.join_cons] at this
          exact this
end Go.Proofs.YtjdcejbblcbjpaaDoor
