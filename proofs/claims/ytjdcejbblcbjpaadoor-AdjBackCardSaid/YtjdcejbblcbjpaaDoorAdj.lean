import Derived.Test.YtjdcejbblcbjpaaDoorItemKit
import Derived.Test.YtjdcejbblcbjpaaDoorLabel
import Derived.Test.YtjdcejbblcbjpaaDoorWords
/-! bytes.Clone; adj.Parse. -/
set_option linter.unusedSimpArgs false
set_option linter.unusedVariables false
namespace Go.Proofs.YtjdcejbblcbjpaaDoor
open Go.RowKit Go.Proofs.YtjdcejbblcbjpaaDoorW.PrintWords Go.Proofs.YtjdcejbblcbjpaaDoorW.PrintLast Go.Proofs.YtjdcejbblcbjpaaDoorW.PrintMore

theorem infoItem5 : (Tryd.prog.info? 36).map (fun i => (i.zero, i.size, i.bytes)) = some (some (.agg #[.bool false, .slice none 0 0, .slice none 0 0, .int .i64 0, .int .i64 0]), kItem.sz, 72) := infoItem
/-- bytes.Clone of bytes. -/
theorem bclone_any (v : Value) (l0 : List UInt8) (w : World) (hr0 : Rd kb w v l0) (hl : l0.length ≤ 140737488355328) :
    Calls Tryd.prog 19 #[v] w fun e w' => ∃ v0 : Value, e = .returned v0 ∧ Own kb 5 w' w.heap.size v0 l0 ∧ Below w.heap.size w w' := by
  obtain ⟨A0, c0, rfl, hc0, HR0⟩ := hr0
  have Hl := Lib.hid hl
  have HR := Lib.hid (Kd.F_now HR0)
  clear HR0 hl hc0
  have heq := fun (w : World) => Lib.run_eql_slice_nil (P := Tryd.prog) w 22 5 A0 l0.length c0 0 0 Tryd.underlying22
  cases A0 with
  | none =>
    go_enter Tryd.func19, Tryd.ntmps19
    go_wp2_with fail
    go_ret
    have h0 : l0 = [] := by
      rcases l0 with _ | ⟨a, l⟩
      · rfl
      · obtain ⟨_, h, _⟩ := HR.out.2.2 (by simp)
        cases h
    subst h0
    exact ⟨_, rfl, Own.nil _ _ _ _, Below.refl _ _⟩
  | some ad =>
    go_enter Tryd.func19, Tryd.ntmps19
    go_wp2_with (first | ((with_reducible refine gate_dst (N := 5) rfl ?_); refine Kd.R_lit kb _ 5 ?hg (N := 5) ?hd (xs := ([] : List UInt8)) (inner := []) (ok := fun k => w.heap.size ≤ k) (okp := fun _ => False) ?hr ?hp (fun _ hk => hk.elim) (Nat.le_refl _) (Below.refl _ _) (Nat.le_refl _) (by simp) ?_; (case hd => rfl); (case hg => rfl); (case hr => first | (go_simp; done) | (go_simp; rfl)); (case hp => exact (Reps.none _ _)); intro v1 w1 ho1 hb1 hg1 _) | ((with_reducible refine gate_builtin (b := .append) (xs := #[.tmp 5, .tmp 6]) rfl ?_); at_builtin; refine Kd.R_append_rows kb (w0 := w) w.heap.size rfl (.tmp 5) (.tmp 6) 22 5 (.int .u8 0) 1 rfl Tryd.underlying22 infoByte rfl (by decide) (by omega) v1 [] l0 _ _ _ (fun k => w.heap.size ≤ k) (fun _ => False) rfl rfl ho1 ?aR (fun _ _ h => h) (fun _ h => h.elim) ?aF ?aB ?aS ?aL ?_; (case aR => exact Kd.C_below HR.out hb1); (case aB => exact hb1); (case aF => exact (fun k hk => Nat.le_trans hb1.size hk)); (case aS => exact hb1.size); (case aL => have := Hl.out; simp; omega); intro v2 w2 ho2 hb2 hg2 hat2))
    go_ret
    exact ⟨_, rfl, Kd.R_N ho2, hb2⟩

/-- One item in a block of its own. -/
theorem item_one {w : World} {va vb : Value} {two : Bool} {a b : List UInt8} {code at_ : Int} (ha : Rd kb w va a) (hb : Rd kb w vb b) :
    Rd kItem (w.alloc (.cells #[.bool two, va, vb, .int .i64 code, .int .i64 at_] 36)) (.slice (some ⟨w.heap.size, 0, none⟩) 1 1) [(two, a, b, code, at_)] := by
  have hb2 := below_alloc (Below.refl w.heap.size w) (.cells #[.bool two, va, vb, .int .i64 code, .int .i64 at_] 36)
  refine krow_rd (xs := [(two, a, b, code, at_)]) (heap_alloc_new w _) (fun j x hx => ?_) trivial (by simp) (by simp)
  rcases j with _ | j
  · simp only [List.getElem?_cons_zero, Option.some.injEq] at hx
    subst hx
    refine ⟨_, item_FK (Rd.below ha hb2) (Rd.below hb hb2), fun i u hu => ?_⟩
    rw [Nat.zero_mul, Nat.zero_add]
    simpa using hu
  · simp at hx

set_option maxRecDepth 100000 in
set_option maxHeartbeats 4000000 in
theorem aparse_any (v : Value) (at_ : Int) (bs : List UInt8) (num : Bool) (w : World) (hv : Rd kb w v bs) (ha : 0 ≤ at_) (hb : at_ ≤ 4611686018427387904) (hl : bs.length ≤ 1048576) :
    Calls Tryd.prog 10 #[.agg #[.int .i64 at_, v], .bool num] w fun e w' => ∃ v', e = .returned v' ∧ Rd kItem w' v' (Pl.adj at_ bs num) ∧ Below w.heap.size w w' := by
  have HR := Lib.hid hv
  obtain ⟨A0, c0, rfl, hc0, _⟩ := hv
  go_enter Tryd.func10, Tryd.ntmps10
  go_wp2_with fail
  refine calls_at fun W0 hW0 => ?_
  have HB0 : Below w.heap.size w W0 := by
    rw [← hW0]
    exact below_alloc (Below.refl _ _) _
  have KX := Blk.new w #[.int .i64 at_, .slice A0 bs.length c0] 33
  rw [hW0] at KX
  clear hW0
  refine (words_any _ at_ bs _ (Rd.below HR.out HB0) ha hb (by omega)).mono ?_
  rintro e w1 ⟨v1, rfl, ho1, hb1⟩
  obtain ⟨A1, c1, hv1⟩ := Kd.N_slice ho1
  subst hv1
  have HO1 := Lib.hid ho1
  have HB1 := Lib.hid (bthen HB0 hb1)
  replace KX := KX.belowW hb1
  clear ho1 hb1 HB0
  have hwl := Pl.words_len at_ bs
  obtain ⟨ws, hws⟩ : ∃ ws, Pl.words at_ bs = ws := ⟨_, rfl⟩
  rw [hws] at HO1 hwl ⊢
  have HW := Lib.hid hws
  have KXH := Lib.hid KX
  have hzX := KX.lt
  clear hws KX
  go_wp2_with fail
  go_loopw [5, 6, 16] (fun v out i wr => ∃ k B : Nat, i = .int .i64 (k : Int) ∧ Aside0 (k ≤ ws.length) ∧ Aside0 (Pl.badAt num (ws.take k) = none) ∧ Aside0 (Kd.V kb 0 wr 0 (fun j => j < B) v ((Pl.labs num (ws.take k)).headD [])) ∧ Aside0 (Own kItem 36 wr B out (Pl.mates (Pl.labs num (ws.take k)))) ∧ Aside0 (w1.heap.size ≤ B ∧ B ≤ wr.heap.size) ∧ Aside0 (k = 0 → out = .slice none 0 0) ∧ Aside0 (Below w1.heap.size w1 wr)) (fun _ _ i _ => ws.length - (intOf i).toNat)
  case atStart => exact ⟨0, w1.heap.size, rfl, ⟨by omega⟩, ⟨rfl⟩, ⟨by simpa [Pl.labs] using Kd.V_nil kb 0 w1 0 _⟩, ⟨by simpa [Pl.labs, Pl.mates] using Own.nil kItem 36 w1 w1.heap.size⟩, ⟨Nat.le_refl _, Nat.le_refl _⟩, ⟨fun _ => rfl⟩, ⟨Below.refl _ _⟩⟩
  case round =>
    obtain ⟨k, B, rfl, hk, hbad, HV, HO, hBB, hO0, HB⟩ := hrel
    by_cases hlt : k < ws.length
    · obtain ⟨⟨x1, xb⟩, hxk⟩ : ∃ p, ws[k]? = some p := ⟨_, List.getElem?_eq_getElem hlt⟩
      obtain ⟨gl, capl, hvl, hgl, hget⟩ := line_own HO1.out (by omega)
      injection hvl with hvl1 _ hvl2
      subst hvl1 hvl2
      obtain ⟨A2, c2, hVx, hx0, hx1⟩ := hget k _ hxk
      have hx0' := (HB.out.cell (p := ⟨gl, k * 2, none⟩) hgl).trans hx0
      have hx1' := (HB.out.cell (p := ⟨gl, k * 2 + 1, none⟩) hgl).trans hx1
      have hzr : gl < wr.heap.size := Nat.lt_of_lt_of_le hgl HB.out.size
      have q1 : wr.heap.size ≠ gl := by omega
      have HVx := Lib.hid hVx
      have HXK := Lib.hid hxk
      clear hget hx0 hx1 hVx hxk
      go_wp2_with fail
      refine calls_at fun W2 hW2 => ?_
      have HBw : Below wr.heap.size wr W2 := by rw [← hW2]; exact below_alloc (Below.refl _ _) _
      have KL := Blk.new wr #[.int .i64 x1, .slice A2 xb.length c2] 33
      rw [hW2] at KL
      clear hW2 hx0' hx1'
      refine (label_any _ xb num _ (Kd.V_mono (Kd.V_below HVx.out (bthen HB.out HBw)) (fun _ _ => trivial))).mono ?_
      rintro e W3 ⟨va, rfl, hoa, hba⟩
      obtain ⟨A4, c4, hva⟩ := Kd.N_slice hoa
      subst hva
      replace KL := KL.belowW hba
      have hzL := KL.lt
      have hwz := HBw.size
      replace HBw := bthen HBw hba
      have hw3 := HBw.size
      have HBW := Lib.hid HBw
      have HOA := Lib.hid hoa
      clear HBw hba hoa
      have HB3 := Lib.hid (bthen HB1.out (bthen HB.out HBW.out))
      rcases hla : Pl.label xb num with _ | la
      · have HE := Lib.hid (Pl.adj_bad (num := num) HW.out (Pl.badAt_some HXK.out hbad.out hla))
        rw [hla] at HOA
        clear hla
        obtain ⟨hC, hCf⟩ := KL.cell
        simp only [Option.isSome_none, Option.getD_none, List.length_nil] at HOA ⊢
        go_wp2_with fail
        go_ret
        rw [HE.out]
        exact ⟨_, rfl, item_one (Rd.nil _ _) (Rd.nil _ _), below_alloc HB3.out _⟩
      · have HN := Lib.hid (Pl.badAt_next HXK.out hbad.out hla)
        have HL := Lib.hid (Pl.labs_next HXK.out hla)
        rw [hla] at HOA
        clear hla
        simp only [Option.isSome_some, Option.getD_some] at HOA ⊢
        rcases k with _ | k
        · have hv6 := hO0.out rfl
          subst hv6
          have hB3 := HB.out.size
          clear HO HV hO0
          go_wp2_with fail
          go_roundw
          case rel => exact ⟨1, W3.heap.size, by go_num, ⟨by omega⟩, ⟨HN.out⟩, ⟨by rw [HL.out]; exact Kd.V_mono (Kd.V_bound HOA.out.v) (fun _ h => h.2)⟩, ⟨by rw [HL.out]; exact Own.nil _ _ _ _⟩, ⟨by omega, Nat.le_refl _⟩, ⟨fun h => absurd h (by omega)⟩, ⟨bthen HB.out HBW.out⟩⟩
          case measure => simp [intOf]; omega
        · obtain ⟨L, hL⟩ : ∃ L, Pl.labs num (ws.take (k + 1)) = L := ⟨_, rfl⟩
          have hne : L ≠ [] := by
            rw [← hL]
            intro h
            have := congrArg List.length h
            rw [Pl.labs_len, List.length_take, List.length_nil] at this
            omega
          have hml : (Pl.mates L).length ≤ k + 1 := by
            rw [Pl.mates_len, ← hL, Pl.labs_len, List.length_take]
            omega
          rw [hL] at HL HV HO
          have HM := Lib.hid (Pl.mates_snoc hne la)
          have HH := Lib.hid (Pl.head_snoc hne la)
          obtain ⟨a, ha⟩ : ∃ a, L.headD [] = a := ⟨_, rfl⟩
          rw [ha] at HH HV HM
          obtain ⟨A6, c6, hv6⟩ := Kd.V_slice HV.out
          obtain ⟨A7, c7, hv7⟩ := Kd.N_slice HO.out
          subst hv6 hv7
          have ham : a.length ≤ 32 := by rw [← ha, ← hL]; exact Pl.labs_head num _
          clear hL ha hne hO0
          go_wp2_with (first | (go_at_call 19; refine (bclone_any _ a _ (Rd.below (Kd.V_mono HV.out (fun _ _ => trivial)) HBW.out) (by omega)).mono ?_; rintro e w8 ⟨v8, rfl, ho8, hb8⟩; obtain ⟨A8, c8, hv8⟩ := Kd.N_slice ho8; subst hv8; have HO8 := Lib.hid ho8; have HB8 := Lib.hid (bthen HBW.out hb8); have HOA8 := Lib.hid (HOA.out.below hb8); clear ho8 hb8) | ((with_reducible refine gate_builtin (b := .append) (xs := #[.tmp 28, .tmp 33]) rfl ?_); at_builtin; refine Kd.N_append kItem (w0 := wr) B rfl (.tmp 28) (.tmp 33) 30 36 (.agg #[.bool false, .slice none 0 0, .slice none 0 0, .int .i64 0, .int .i64 0]) 72 rfl Tryd.underlying30 infoItem5 rfl (by decide) (by omega) _ (Pl.mates L) (true, a, la, 0, 0) [.bool true, .slice A8 a.length c8, .slice A4 la.length c4, .int .i64 0, .int .i64 0] (fun k => B ≤ k) (fun k => wr.heap.size ≤ k) rfl rfl ?aP ?aQ ?aF ?aO ?aB ?aS ?aL ?_; (case aP => exact item_FK (Kd.V_mono HO8.out.v (fun j hj => Nat.le_trans hw3 hj)) (Kd.V_mono HOA8.out.v (fun j hj => Nat.le_trans hwz hj))); (case aQ => exact fun j hj => ⟨Nat.le_trans hBB.out.2 hj, fun he => by have := HO.out.lt j he.symm; omega⟩); (case aF => exact fun j hj => Nat.le_trans (Nat.le_trans hBB.out.2 HB8.out.size) hj); (case aO => exact HO.out.below HB8.out); (case aB => exact blow HB8.out hBB.out.2); (case aS => exact Nat.le_trans hBB.out.2 HB8.out.size); (case aL => omega); intro v9 w9 ho9 hb9 hg9 hat9))
          go_roundw
          case rel => exact ⟨k + 2, B, by go_num, ⟨by omega⟩, ⟨HN.out⟩, ⟨by rw [HL.out, HH.out]; exact Kd.V_step HV.out (fun j hj _ => hb9.block j hj)⟩, ⟨by rw [HL.out, HM.out]; exact ho9⟩, ⟨hBB.out.1, Nat.le_trans hBB.out.2 (by have := hb9.size; omega)⟩, ⟨fun h => absurd h (by omega)⟩, ⟨HB.out.trans (blow hb9 hBB.out.1)⟩⟩
          case measure => simp [intOf]; omega
    · obtain rfl : k = ws.length := by have := hk.out; omega
      rw [List.take_of_length_le (Nat.le_refl _)] at hbad HV HO
      obtain ⟨hX, hXf⟩ := (KXH.out.belowW HB.out).cell
      have HBf := Lib.hid (bthen HB1.out HB.out)
      rcases Nat.lt_trichotomy ws.length 1 with h0 | h1 | h2
      · have HE := Lib.hid (Pl.adj_none (num := num) HW.out (by omega))
        have hd : decide ((ws.length : Int) < (ws.length : Int)) = false := by simp
        have hw0 : (ws.length : Int) = 0 := by omega
        clear HV
        go_wp2_with fail
        go_ret
        rw [HE.out]
        exact ⟨_, rfl, item_one (Rd.nil _ _) (Rd.nil _ _), below_alloc HBf.out _⟩
      · have HE := Lib.hid (Pl.adj_one (num := num) HW.out h1 hbad.out)
        obtain ⟨a, ha⟩ : ∃ a, (Pl.labs num ws).headD [] = a := ⟨_, rfl⟩
        rw [ha] at HE HV
        clear ha
        obtain ⟨A6, c6, hv6⟩ := Kd.V_slice HV.out
        subst hv6
        have HVH := Lib.hid (Kd.V_mono HV.out (fun _ _ => trivial) : Rd kb wr _ _)
        clear HV
        have hw1 : (ws.length : Int) = 1 := by omega
        go_wp2_with fail
        go_ret
        rw [HE.out]
        exact ⟨_, rfl, item_one HVH.out (Rd.nil _ _), below_alloc HBf.out _⟩
      · have HE := Lib.hid (Pl.adj_more (num := num) HW.out h2 hbad.out)
        have hw0 : ((ws.length : Int) == 0) = false := beq_false_of_ne (by omega)
        have hw1 : ((ws.length : Int) == 1) = false := beq_false_of_ne (by omega)
        clear hX hXf
        go_wp2_with fail
        go_ret
        rw [HE.out]
        exact ⟨_, rfl, HO.out.rd, HBf.out⟩
end Go.Proofs.YtjdcejbblcbjpaaDoor
/-! adj.Parse: its rows are the call's own, to the bottom. -/
set_option linter.unusedSimpArgs false
set_option linter.unusedVariables false
namespace Go.Proofs.YtjdcejbblcbjpaaDoor
open Go.RowKit Go.Proofs.YtjdcejbblcbjpaaDoorW.PrintWords Go.Proofs.YtjdcejbblcbjpaaDoorW.PrintLast Go.Proofs.YtjdcejbblcbjpaaDoorW.PrintMore
/-- bytes of one's own -/
abbrev OwnB (w : World) (base : Nat) (ok : Nat → Prop) (v : Value) (xs : List UInt8) : Prop := kb.R 5 w base ok v xs
/-- items of one's own, to the bottom -/
abbrev OwnI (w : World) (base : Nat) (v : Value) (xs : List Pl.ItT) : Prop := kItem.R 36 w base (fun k => base ≤ k) v xs
theorem item_M {w : World} {base : Nat} {ok : Nat → Prop} {va vb : Value} {two : Bool} {a b : List UInt8} {code at_ : Int} (ha : OwnB w base ok va a) (hb : OwnB w base ok vb b) : kItem.M w base ok (two, a, b, code, at_) [.bool two, va, vb, .int .i64 code, .int .i64 at_] :=
  ⟨[.bool two], [va, vb, .int .i64 code, .int .i64 at_], rfl, rfl, [va], [vb, .int .i64 code, .int .i64 at_], rfl, ⟨va, rfl, ha⟩, [vb], [.int .i64 code, .int .i64 at_], rfl, ⟨vb, rfl, hb⟩, [.int .i64 code], [.int .i64 at_], rfl, rfl, rfl⟩
theorem ownB_ok {w : World} {base : Nat} {ok ok' : Nat → Prop} {v : Value} {xs : List UInt8} (h : OwnB w base ok v xs) (hok : ∀ k, v.ownBlock = some k → ok' k) : OwnB w base ok' v xs := Kd.R_reok rfl h hok
theorem OwnB.of {w : World} {base : Nat} {v : Value} {xs : List UInt8} (h : Own kb 5 w base v xs) : OwnB w base (fun k => base ≤ k) v xs := own_R h
/-- One item in a block of its own. -/
theorem item_oneR {w : World} {base : Nat} {va vb : Value} {two : Bool} {a b : List UInt8} {code at_ : Int} (ha : OwnB w base (fun k => base ≤ k) va a) (hb : OwnB w base (fun k => base ≤ k) vb b) (hbase : base ≤ w.heap.size) :
    OwnI (w.alloc (.cells #[.bool two, va, vb, .int .i64 code, .int .i64 at_] 36)) base (.slice (some ⟨w.heap.size, 0, none⟩) 1 1) [(two, a, b, code, at_)] := by
  have hb2 := below_alloc (Below.refl w.heap.size w) (.cells #[.bool two, va, vb, .int .i64 code, .int .i64 at_] 36)
  refine ⟨fun k hk => ?_, [.bool two, va, vb, .int .i64 code, .int .i64 at_], ?_, ?_⟩
  · have : w.heap.size = k := by simpa [Value.ownBlock] using hk
    omega
  · exact World.ownsRow_lit (base := base) (e := 36) (size := kItem.sz) w #[.bool two, va, vb, .int .i64 code, .int .i64 at_] 1 hbase (by decide) rfl
  · refine ⟨rfl, fun j p hp => ?_⟩
    rcases j with _ | j
    · simp only [List.getElem?_cons_zero, Option.some.injEq] at hp
      subst hp
      have la := fun k (hk : va.ownBlock = some k) => Kd.N_lt (Kd.R_N ha) k hk
      have lb := fun k (hk : vb.ownBlock = some k) => Kd.N_lt (Kd.R_N hb) k hk
      exact item_M (ownB_ok (Kd.R_below ha hb2) (fun k hk => ⟨ha.1 k hk, fun he => by have := la k hk; simp [Value.ownBlock] at he; omega⟩)) (ownB_ok (Kd.R_below hb hb2) (fun k hk => ⟨hb.1 k hk, fun he => by have := lb k hk; simp [Value.ownBlock] at he; omega⟩))
    · simp at hp

set_option maxRecDepth 100000 in
set_option maxHeartbeats 4000000 in
theorem aparse_own (v : Value) (at_ : Int) (bs : List UInt8) (num : Bool) (w : World) (hv : Rd kb w v bs) (ha : 0 ≤ at_) (hb : at_ ≤ 4611686018427387904) (hl : bs.length ≤ 1048576) :
    Calls Tryd.prog 10 #[.agg #[.int .i64 at_, v], .bool num] w fun e w' => ∃ v', e = .returned v' ∧ OwnI w' w.heap.size v' (Pl.adj at_ bs num) ∧ Below w.heap.size w w' := by
  have HR := Lib.hid hv
  obtain ⟨A0, c0, rfl, hc0, _⟩ := hv
  go_enter Tryd.func10, Tryd.ntmps10
  go_wp2_with fail
  refine calls_at fun W0 hW0 => ?_
  have HB0 : Below w.heap.size w W0 := by
    rw [← hW0]
    exact below_alloc (Below.refl _ _) _
  have KX := Blk.new w #[.int .i64 at_, .slice A0 bs.length c0] 33
  rw [hW0] at KX
  clear hW0
  refine (words_any _ at_ bs _ (Rd.below HR.out HB0) ha hb (by omega)).mono ?_
  rintro e w1 ⟨v1, rfl, ho1, hb1⟩
  obtain ⟨A1, c1, hv1⟩ := Kd.N_slice ho1
  subst hv1
  have HO1 := Lib.hid ho1
  have HB1 := Lib.hid (bthen HB0 hb1)
  replace KX := KX.belowW hb1
  clear ho1 hb1 HB0
  have hwl := Pl.words_len at_ bs
  obtain ⟨ws, hws⟩ : ∃ ws, Pl.words at_ bs = ws := ⟨_, rfl⟩
  rw [hws] at HO1 hwl ⊢
  have HW := Lib.hid hws
  have KXH := Lib.hid KX
  have hzX := KX.lt
  clear hws KX
  go_wp2_with fail
  go_loopw [5, 6, 16] (fun v out i wr => ∃ k B : Nat, i = .int .i64 (k : Int) ∧ Aside0 (k ≤ ws.length) ∧ Aside0 (Pl.badAt num (ws.take k) = none) ∧ Aside0 (OwnB wr w1.heap.size (fun j => w1.heap.size ≤ j ∧ j < B) v ((Pl.labs num (ws.take k)).headD [])) ∧ Aside0 (OwnI wr B out (Pl.mates (Pl.labs num (ws.take k)))) ∧ Aside0 (w1.heap.size ≤ B ∧ B ≤ wr.heap.size) ∧ Aside0 (k = 0 → out = .slice none 0 0) ∧ Aside0 (Below w1.heap.size w1 wr)) (fun _ _ i _ => ws.length - (intOf i).toNat)
  case atStart => exact ⟨0, w1.heap.size, rfl, ⟨by omega⟩, ⟨rfl⟩, ⟨by simpa [Pl.labs] using Kd.R_nil kb 5 w1 w1.heap.size _⟩, ⟨by simpa [Pl.labs, Pl.mates] using Kd.R_nil kItem 36 w1 w1.heap.size _⟩, ⟨Nat.le_refl _, Nat.le_refl _⟩, ⟨fun _ => rfl⟩, ⟨Below.refl _ _⟩⟩
  case round =>
    obtain ⟨k, B, rfl, hk, hbad, HV, HO, hBB, hO0, HB⟩ := hrel
    by_cases hlt : k < ws.length
    · obtain ⟨⟨x1, xb⟩, hxk⟩ : ∃ p, ws[k]? = some p := ⟨_, List.getElem?_eq_getElem hlt⟩
      obtain ⟨gl, capl, hvl, hgl, hget⟩ := line_own HO1.out (by omega)
      injection hvl with hvl1 _ hvl2
      subst hvl1 hvl2
      obtain ⟨A2, c2, hVx, hx0, hx1⟩ := hget k _ hxk
      have hx0' := (HB.out.cell (p := ⟨gl, k * 2, none⟩) hgl).trans hx0
      have hx1' := (HB.out.cell (p := ⟨gl, k * 2 + 1, none⟩) hgl).trans hx1
      have hzr : gl < wr.heap.size := Nat.lt_of_lt_of_le hgl HB.out.size
      have q1 : wr.heap.size ≠ gl := by omega
      have HVx := Lib.hid hVx
      have HXK := Lib.hid hxk
      clear hget hx0 hx1 hVx hxk
      go_wp2_with fail
      refine calls_at fun W2 hW2 => ?_
      have HBw : Below wr.heap.size wr W2 := by rw [← hW2]; exact below_alloc (Below.refl _ _) _
      have KL := Blk.new wr #[.int .i64 x1, .slice A2 xb.length c2] 33
      rw [hW2] at KL
      clear hW2 hx0' hx1'
      refine (label_any _ xb num _ (Kd.V_mono (Kd.V_below HVx.out (bthen HB.out HBw)) (fun _ _ => trivial))).mono ?_
      rintro e W3 ⟨va, rfl, hoa, hba⟩
      obtain ⟨A4, c4, hva⟩ := Kd.N_slice hoa
      subst hva
      replace KL := KL.belowW hba
      have hzL := KL.lt
      have hwz := HBw.size
      replace HBw := bthen HBw hba
      have hw3 := HBw.size
      have HBW := Lib.hid HBw
      have HOA := Lib.hid hoa
      clear HBw hba hoa
      have HB3 := Lib.hid (bthen HB1.out (bthen HB.out HBW.out))
      rcases hla : Pl.label xb num with _ | la
      · have HE := Lib.hid (Pl.adj_bad (num := num) HW.out (Pl.badAt_some HXK.out hbad.out hla))
        rw [hla] at HOA
        clear hla
        obtain ⟨hC, hCf⟩ := KL.cell
        simp only [Option.isSome_none, Option.getD_none, List.length_nil] at HOA ⊢
        go_wp2_with fail
        go_ret
        rw [HE.out]
        exact ⟨_, rfl, item_oneR (Kd.R_nil _ _ _ _ _) (Kd.R_nil _ _ _ _ _) HB3.out.size, below_alloc HB3.out _⟩
      · have HN := Lib.hid (Pl.badAt_next HXK.out hbad.out hla)
        have HL := Lib.hid (Pl.labs_next HXK.out hla)
        rw [hla] at HOA
        clear hla
        simp only [Option.isSome_some, Option.getD_some] at HOA ⊢
        rcases k with _ | k
        · have hv6 := hO0.out rfl
          subst hv6
          have hB3 := HB.out.size
          clear HO HV hO0
          go_wp2_with fail
          go_roundw
          case rel => exact ⟨1, W3.heap.size, by go_num, ⟨by omega⟩, ⟨HN.out⟩, ⟨by rw [HL.out]; exact ownB_ok (Kd.R_lower (OwnB.of HOA.out) (by omega)) (fun k hk => ⟨by have := HOA.out.1 k hk; omega, HOA.out.lt k hk⟩)⟩, ⟨by rw [HL.out]; exact Kd.R_nil _ _ _ _ _⟩, ⟨by omega, Nat.le_refl _⟩, ⟨fun h => absurd h (by omega)⟩, ⟨bthen HB.out HBW.out⟩⟩
          case measure => simp [intOf]; omega
        · obtain ⟨L, hL⟩ : ∃ L, Pl.labs num (ws.take (k + 1)) = L := ⟨_, rfl⟩
          have hne : L ≠ [] := by
            rw [← hL]
            intro h
            have := congrArg List.length h
            rw [Pl.labs_len, List.length_take, List.length_nil] at this
            omega
          have hml : (Pl.mates L).length ≤ k + 1 := by
            rw [Pl.mates_len, ← hL, Pl.labs_len, List.length_take]
            omega
          rw [hL] at HL HV HO
          have HM := Lib.hid (Pl.mates_snoc hne la)
          have HH := Lib.hid (Pl.head_snoc hne la)
          obtain ⟨a, ha⟩ : ∃ a, L.headD [] = a := ⟨_, rfl⟩
          rw [ha] at HH HV HM
          obtain ⟨A6, c6, hv6⟩ := Kd.R_slice HV.out
          obtain ⟨A7, c7, hv7⟩ := Kd.R_slice HO.out
          subst hv6 hv7
          have ham : a.length ≤ 32 := by rw [← ha, ← hL]; exact Pl.labs_head num _
          clear hL ha hne hO0
          go_wp2_with (first | (go_at_call 19; refine (bclone_any _ a _ (Rd.below (Own.rd (Kd.R_N (ownB_ok HV.out (fun k hk => (HV.out.1 k hk).1)))) HBW.out) (by omega)).mono ?_; rintro e w8 ⟨v8, rfl, ho8, hb8⟩; obtain ⟨A8, c8, hv8⟩ := Kd.N_slice ho8; subst hv8; have HO8 := Lib.hid ho8; have HB8 := Lib.hid (bthen HBW.out hb8); have HOA8 := Lib.hid (HOA.out.below hb8); clear ho8 hb8) | ((with_reducible refine gate_builtin (b := .append) (xs := #[.tmp 28, .tmp 33]) rfl ?_); at_builtin; refine Kd.R_append kItem (w0 := wr) B rfl (.tmp 28) (.tmp 33) 30 36 (.agg #[.bool false, .slice none 0 0, .slice none 0 0, .int .i64 0, .int .i64 0]) 72 rfl Tryd.underlying30 infoItem5 rfl (by decide) (by omega) _ (Pl.mates L) (true, a, la, 0, 0) [.bool true, .slice A8 a.length c8, .slice A4 la.length c4, .int .i64 0, .int .i64 0] (fun k => B ≤ k) (fun k => wr.heap.size ≤ k) rfl rfl ?aP ?aQ ?aF ?aO ?aB ?aS ?aL ?_; (case aP => exact item_M (ownB_ok (Kd.R_lower (OwnB.of HO8.out) (Nat.le_trans hBB.out.2 hw3)) (fun k hk => Nat.le_trans hw3 (HO8.out.1 k hk))) (ownB_ok (Kd.R_lower (OwnB.of HOA8.out) (Nat.le_trans hBB.out.2 hwz)) (fun k hk => Nat.le_trans hwz (HOA8.out.1 k hk)))); (case aQ => exact fun j hj => ⟨Nat.le_trans hBB.out.2 hj, fun he => by have := Kd.N_lt (Kd.R_N HO.out) j he.symm; omega⟩); (case aF => exact fun j hj => Nat.le_trans (Nat.le_trans hBB.out.2 HB8.out.size) hj); (case aO => exact Kd.R_below HO.out HB8.out); (case aB => exact blow HB8.out hBB.out.2); (case aS => exact Nat.le_trans hBB.out.2 HB8.out.size); (case aL => omega); intro v9 w9 ho9 hb9 hg9 hat9))
          go_roundw
          case rel => exact ⟨k + 2, B, by go_num, ⟨by omega⟩, ⟨HN.out⟩, ⟨by rw [HL.out, HH.out]; exact Kd.R_step HV.out (fun j hj _ => hb9.block j hj.2)⟩, ⟨by rw [HL.out, HM.out]; exact ho9⟩, ⟨hBB.out.1, Nat.le_trans hBB.out.2 (by have := hb9.size; omega)⟩, ⟨fun h => absurd h (by omega)⟩, ⟨HB.out.trans (blow hb9 hBB.out.1)⟩⟩
          case measure => simp [intOf]; omega
    · obtain rfl : k = ws.length := by have := hk.out; omega
      rw [List.take_of_length_le (Nat.le_refl _)] at hbad HV HO
      obtain ⟨hX, hXf⟩ := (KXH.out.belowW HB.out).cell
      have HBf := Lib.hid (bthen HB1.out HB.out)
      rcases Nat.lt_trichotomy ws.length 1 with h0 | h1 | h2
      · have HE := Lib.hid (Pl.adj_none (num := num) HW.out (by omega))
        have hd : decide ((ws.length : Int) < (ws.length : Int)) = false := by simp
        have hw0 : (ws.length : Int) = 0 := by omega
        clear HV
        go_wp2_with fail
        go_ret
        rw [HE.out]
        exact ⟨_, rfl, item_oneR (Kd.R_nil _ _ _ _ _) (Kd.R_nil _ _ _ _ _) HBf.out.size, below_alloc HBf.out _⟩
      · have HE := Lib.hid (Pl.adj_one (num := num) HW.out h1 hbad.out)
        obtain ⟨a, ha⟩ : ∃ a, (Pl.labs num ws).headD [] = a := ⟨_, rfl⟩
        rw [ha] at HE HV
        clear ha
        obtain ⟨A6, c6, hv6⟩ := Kd.R_slice HV.out
        subst hv6
        have hw01 := HB1.out.size
        have HVH := Lib.hid (ownB_ok (Kd.R_lower HV.out hw01) (fun k hk => Nat.le_trans hw01 (HV.out.1 k hk).1) : OwnB wr w.heap.size (fun k => w.heap.size ≤ k) _ _)
        clear HV
        have hw1 : (ws.length : Int) = 1 := by omega
        go_wp2_with fail
        go_ret
        rw [HE.out]
        exact ⟨_, rfl, item_oneR HVH.out (Kd.R_nil _ _ _ _ _) HBf.out.size, below_alloc HBf.out _⟩
      · have HE := Lib.hid (Pl.adj_more (num := num) HW.out h2 hbad.out)
        have hw0 : ((ws.length : Int) == 0) = false := beq_false_of_ne (by omega)
        have hw1 : ((ws.length : Int) == 1) = false := beq_false_of_ne (by omega)
        clear hX hXf
        go_wp2_with fail
        go_ret
        rw [HE.out]
        exact ⟨_, rfl, Kd.R_mono (Kd.R_lower HO.out (by have := HB1.out.size; have := hBB.out.1; omega)) (fun k hk => by have := HB1.out.size; have := hBB.out.1; omega), HBf.out⟩
end Go.Proofs.YtjdcejbblcbjpaaDoor
