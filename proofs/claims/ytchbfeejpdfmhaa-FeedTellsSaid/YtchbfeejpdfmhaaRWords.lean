import Derived.Test.YtchbfeejpdfmhaaWords
import Derived.Test.YtchbfeejpdfmhaaPlain2
import Derived.Deep.RegionLaw
/-! creelref07.Words: a list of lines, to the last of which bytes are appended. -/
set_option linter.unusedSimpArgs false
set_option linter.unusedVariables false
namespace Go.Proofs.Ytchbfeejpdfmhaa
open Go.RowKit Go.Proofs.YtchbfeejpdfmhaaW.PrintWords Go.Proofs.YtchbfeejpdfmhaaW.PrintLast Go.Proofs.YtchbfeejpdfmhaaW.PrintMore

theorem raw_sz : (Kd.raw 2).sz = 2 := rfl
/-- Lines of the call's own, the last one's bytes a row of their own. -/
structure OutI (W : World) (base : Nat) (v : Value) (q : List (Int × List UInt8)) (at_ : Int) (t : List UInt8) (rows : List (List Value)) (u : Value) : Prop where
  len : rows.length = q.length
  row : (Kd.raw 2).R 26 W base (fun _ => True) v (rows ++ [[.int .i64 at_, u]])
  last : Own kb 5 W base u t
  apart : ∀ b, u.ownBlock = some b → v.ownBlock ≠ some b
  els : ∀ (j : Nat) (x : Int × List UInt8) (c : List Value), q[j]? = some x → rows[j]? = some c → Kd.FK kLine W (fun b => base ≤ b ∧ some b ≠ v.ownBlock ∧ some b ≠ u.ownBlock) x c

theorem own_tight {w : World} {e base : Nat} {v : Value} {xs : List UInt8} (h : Own kb e w base v xs) : Kd.V kb 0 w 0 (fun b => v.ownBlock = some b ∧ base ≤ b) v xs := by
  have h1 := Kd.R_mono (ok' := fun b => v.ownBlock = some b ∧ base ≤ b) (Kd.R_bound (Kd.R_tight rfl (own_R h))) (fun k hk => ⟨hk.1.symm, hk.2.1⟩)
  obtain ⟨A, c, he, hl, hf⟩ := Kd.R_V (base' := 0) h1
  exact ⟨A, c, he, hl, hf⟩
theorem FK_after {α : Type} {d : Kd α} {W w1 : World} {ok : Nat → Prop} {v v1 : Value} {x : α} {c : List Value} (h : Kd.FK d W (fun k => ok k ∧ some k ≠ v.ownBlock) x c) (hg : W.grownBy w1 v.ownBlock) (hat : v1.ownBlock = v.ownBlock ∨ ∃ b, v1.ownBlock = some b ∧ W.heap.size ≤ b) : Kd.FK d w1 (fun k => ok k ∧ some k ≠ v1.ownBlock) x c := by
  refine Kd.FK_mono (Kd.FK_step (Kd.FK_bound h) (fun k hk hlt => hg.block k hlt hk.1.2)) (fun k hk => ⟨hk.1.1, ?_⟩)
  rcases hat with hat | ⟨b, hb, hle⟩
  · rw [hat]; exact hk.1.2
  · rw [hb]
    intro he
    injection he with he
    have := hk.2
    omega
/-- The lines, closed. -/
theorem OutI.own {W : World} {base : Nat} {v : Value} {q : List (Int × List UInt8)} {at_ : Int} {t : List UInt8} {rows : List (List Value)} {u : Value} (h : OutI W base v q at_ t rows u) : Own kLine 26 W base v (q ++ [(at_, t)]) := by
  have hl := h.len
  refine ⟨fun k hk => Kd.R_base h.row k hk, _, by simp [hl], Kd.raw_tight h.row, fun j x c hx hc => ?_⟩
  by_cases hj : j < q.length
  · rw [List.getElem?_append_left hj] at hx
    rw [List.getElem?_append_left (by omega)] at hc
    exact Kd.FK_mono (h.els j x c hx hc) (fun k hk => ⟨hk.1, hk.2.1⟩)
  · have hj2 : j = q.length := by
      have h1 := (List.getElem?_eq_some_iff.1 hx).1
      rw [List.length_append] at h1
      simp at h1
      omega
    subst hj2
    simp only [List.getElem?_concat_length, Option.some.injEq] at hx
    rw [← hl, List.getElem?_concat_length, Option.some.injEq] at hc
    subst hx hc
    exact line_FK (Kd.V_mono (own_tight h.last) (fun k hk => ⟨hk.2, fun he => h.apart k hk.1 he.symm⟩))
/-- A new line behind them. -/
theorem OutI.new {W w1 : World} {base : Nat} {v v1 : Value} {ws : List (Int × List UInt8)} {rows : List (List Value)} {at_ : Int}
    (hl : rows.length = ws.length) (hf : ∀ (j : Nat) (x : Int × List UInt8) (c : List Value), ws[j]? = some x → rows[j]? = some c → Kd.FK kLine W (fun k => base ≤ k ∧ some k ≠ v.ownBlock) x c)
    (hr : (Kd.raw 2).R 26 w1 base (fun _ => True) v1 (rows ++ [[.int .i64 at_, .slice none 0 0]])) (hg : W.grownBy w1 v.ownBlock) (hat : v1.ownBlock = v.ownBlock ∨ ∃ b, v1.ownBlock = some b ∧ W.heap.size ≤ b) : OutI w1 base v1 ws at_ [] rows (.slice none 0 0) :=
  ⟨hl, hr, Own.nil _ _ _ _, fun b hb => by simp [Value.ownBlock] at hb, fun j x c hx hc => Kd.FK_mono (FK_after (hf j x c hx hc) hg hat) (fun k hk => ⟨hk.1, hk.2, by simp [Value.ownBlock]⟩)⟩
/-- The last line's bytes have grown, and are stored in it. -/
theorem OutI.more {W w1 : World} {base g n cap : Nat} {q : List (Int × List UInt8)} {at_ : Int} {t t1 : List UInt8} {rows : List (List Value)} {u u1 : Value}
    (h : OutI W base (.slice (some ⟨g, 0, none⟩) n cap) q at_ t rows u) (ho : Own kb 5 w1 base u1 t1) (hg : W.grownBy w1 u.ownBlock) (hat : u1.ownBlock = u.ownBlock ∨ ∃ b, u1.ownBlock = some b ∧ W.heap.size ≤ b) :
    OutI (w1.setCell ⟨g, rows.length * 2 + 1, none⟩ u1) base (.slice (some ⟨g, 0, none⟩) n cap) q at_ t1 rows u1 ∧ W.cell? ⟨g, rows.length * 2 + 1, none⟩ = some u ∧ n = rows.length + 1 ∧ (∀ W1 : World, W1.heap[g]? = W.heap[g]? → W1.cell? ⟨g, rows.length * 2 + 1, none⟩ = some u ∧ W1.frozen? ⟨g, rows.length * 2 + 1, none⟩ = false) := by
  have hvg : (Value.slice (some ⟨g, 0, none⟩) n cap).ownBlock = some g := by simp [Value.ownBlock]
  have hgW : g < W.heap.size := Kd.R_lt h.row g hvg
  have hgu : ∀ b, u.ownBlock = some b → g ≠ b := fun b hb he => h.apart b hb (by rw [hvg, he])
  have hgu1 : ∀ b, u1.ownBlock = some b → b ≠ g := fun b hb he => by
    rcases hat with hat | ⟨b', hb', hle⟩
    · exact hgu b (by rw [← hat]; exact hb) he.symm
    · rw [hb'] at hb
      injection hb with hb
      omega
  have cells : ∀ W1 : World, (Kd.raw 2).R 26 W1 base (fun _ => True) (.slice (some ⟨g, 0, none⟩) n cap) (rows ++ [[.int .i64 at_, u]]) → ∀ j (v : Value), [Value.int .i64 at_, u][j]? = some v → W1.cell? ⟨g, rows.length * 2 + j, none⟩ = some v := by
    intro W1 hR j v hj
    obtain ⟨ad, cs, he, hK, hc⟩ := row_get (Kd.N_F (Kd.R_N hR)) rows.length [.int .i64 at_, u] (by simp)
    injection he with he
    subst he
    have hk : cs = [.int .i64 at_, u] := (Kd.FK_now hK).1
    subst hk
    have := hc j v hj
    rw [add_plain, raw_sz] at this
    exact this
  have hn : n = rows.length + 1 := by
    have := (Kd.R_reads' h.row).1
    simpa using this
  have hrow1 : (Kd.raw 2).R 26 w1 base (fun _ => True) (.slice (some ⟨g, 0, none⟩) n cap) (rows ++ [[.int .i64 at_, u]]) :=
    Kd.R_mono (Kd.R_grown (Kd.R_tight rfl h.row) hg (fun k hk he => by
      rw [hvg] at hk
      injection hk with hk
      exact hgu k he.symm hk.symm)) (fun _ _ => trivial)
  obtain ⟨A1, c1, hu1⟩ := Kd.N_slice ho
  have hone : u1.oneCell' = true := by rw [hu1]; rfl
  refine ⟨⟨h.len, ?_, ?_, fun b hb he => ?_, fun j x c hx hc => ?_⟩, cells W h.row 1 u rfl, hn, fun W1 hW1 => ?_⟩
  · have := (Kd.R_seg hrow1 (rows.length : Int) (by omega) (by omega) (c := [.int .i64 at_, u]) (seg := [u1]) (j := 1) rfl (fun j v hj => by rw [Int.toNat_natCast]; exact cells w1 hrow1 j v hj) (by rw [raw_sz]; simp) (x' := [.int .i64 at_, u1]) (okp := fun _ => False) ⟨rfl, rfl, fun v hv => by
      simp at hv
      rcases hv with rfl | rfl
      · rfl
      · exact hone⟩ (fun _ h => h.elim)).1
    rw [Int.toNat_natCast, raw_sz, List.set_append_right _ _ (Nat.le_refl _)] at this
    simp only [Nat.sub_self, List.set_cons_zero] at this
    exact this
  · refine Kd.R_N (Kd.R_mono (ok := fun b => u1.ownBlock = some b ∧ base ≤ b) (Kd.R_far (p := ⟨g, rows.length * 2 + 1, none⟩) (Kd.R_mono (Kd.R_bound (Kd.R_tight rfl (own_R ho))) (fun k hk => ⟨hk.1.symm, hk.2.1⟩)) (fun k hk => hgu1 k hk.1) u1) (fun k hk => hk.2))
  · rw [hvg] at he
    injection he with he
    exact hgu1 b hb he.symm
  · have h1 := FK_after (ok := fun b => base ≤ b ∧ some b ≠ (Value.slice (some ⟨g, 0, none⟩) n cap).ownBlock) (Kd.FK_mono (h.els j x c hx hc) (fun k hk => ⟨⟨hk.1, hk.2.1⟩, hk.2.2⟩)) hg hat
    exact Kd.FK_mono (Kd.FK_step h1 (fun k hk _ => Below.heap_setCell w1 ⟨g, _, none⟩ u1 k (fun he => hk.1.2 (by rw [hvg, he])))) (fun k hk => ⟨hk.1.1, hk.1.2, hk.2⟩)
  · have hR1 := Kd.R_move (Kd.R_tight rfl h.row) (w1 := W1) (fun k hk => by rw [hvg] at hk; injection hk with hk; subst hk; exact hW1)
    refine ⟨cells W1 (Kd.R_mono hR1 (fun _ _ => trivial)) 1 u rfl, ?_⟩
    obtain ⟨cs, hcs⟩ := Kd.R_typed hR1 g hvg
    exact blk_frozen hcs _

theorem rblank_any (c : UInt8) (w : World) : Calls Try.prog 41 #[.int .u8 (c.toNat : Int)] w fun e w' => e = .returned (.bool (Pl.isBl c)) ∧ w = w' := by
  have key : ∀ b : Bool, Pl.isBl c = b → Calls Try.prog 41 #[.int .u8 (c.toNat : Int)] w fun e w' => e = .returned (.bool b) ∧ w = w' := by
    intro b hb
    have e1 : (((c.toNat : Int) == 32)) = (c == 32) := u8_beq c 32
    have e2 : (((c.toNat : Int) == 9)) = (c == 9) := u8_beq c 9
    unfold Pl.isBl at hb
    rw [← e1, ← e2] at hb
    clear e1 e2
    go_enter Try.func41, Try.ntmps41
    go_wp2
    all_goals
      go_ret
      simp_all
  exact key _ rfl

set_option maxRecDepth 100000 in
set_option maxHeartbeats 2000000 in
theorem rwords_any (v : Value) (at_ : Int) (bs : List UInt8) (w : World) (hv : Rd kb w v bs) (ha : 0 ≤ at_) (hb : at_ ≤ 4611686018427387904) (hl : bs.length ≤ 1099511627776) :
    Calls Try.prog 31 #[.agg #[.int .i64 at_, v]] w fun e w' => ∃ v' : Value, e = .returned v' ∧ Own kLine 26 w' w.heap.size v' (Pl.words at_ bs) ∧ Below w.heap.size w w' := by
  obtain ⟨A0, c0, rfl, hc0, HR0⟩ := hv
  have HR := Lib.hid HR0
  clear HR0
  go_enter Try.func31, Try.ntmps31
  go_wp2
  refine wp_at fun w1 hw1 => ?_
  have hB1 : Below w.heap.size w w1 := by rw [← hw1]; exact below_alloc (Below.refl _ _) _
  have KX := Blk.new w #[.int .i64 at_, .slice A0 bs.length c0] 26
  rw [hw1] at KX
  have hz1 : w1.heap.size = w.heap.size + 1 := by rw [← hw1]; simp
  clear hw1
  go_loopw [3, 4] (fun v i wr => ∃ (k : Nat), i = .int .i64 (k : Int) ∧ Aside0 (k ≤ bs.length) ∧ Aside0 ((Pl.words at_ (bs.take k) = [] ∧ v = .slice none 0 0) ∨ ∃ q a t rows u, Pl.words at_ (bs.take k) = q ++ [(a, t)] ∧ OutI wr w1.heap.size v q a t rows u) ∧ Aside0 (Below w1.heap.size w1 wr)) (fun _ i _ => bs.length - (intOf i).toNat)
  case atStart => exact ⟨0, rfl, ⟨by omega⟩, ⟨.inl ⟨by rw [List.take_zero, Pl.words, Pl.wordsFrom_nil]; rfl, rfl⟩⟩, ⟨Below.refl _ _⟩⟩
  case round =>
    obtain ⟨k, rfl, hk, HI, HB⟩ := hrel
    have KXr := KX.belowW HB.out
    obtain ⟨hX, hXf⟩ := KXr.cell
    by_cases hlt : k < bs.length
    · obtain ⟨ad, rfl, _⟩ := kb_cell HR.out k hlt
      have hce := kb_cell' (Kd.F_below HR.out (bthen hB1 HB.out)) k hlt
      obtain ⟨c, hc⟩ : ∃ c, bs.getD k 0 = c := ⟨_, rfl⟩
      rw [hc] at hce
      have HC := Lib.hid hc
      clear hc
      by_cases hbl : Pl.isBl c = true
      · go_wp2_with (go_at_call 41; refine (rblank_any c _).mono ?_; rintro e w' ⟨rfl, rfl⟩)
        go_roundw
        case rel => exact ⟨k + 1, by go_num, ⟨by omega⟩, ⟨by rw [Pl.take_snoc hlt, HC.out, Pl.words_blank _ _ _ hbl]; exact HI.out⟩, HB⟩
        case measure => simp [intOf]; omega
      · replace hbl : Pl.isBl c = false := by simpa using hbl
        go_upto_region 6 with (go_at_call 41; refine (rblank_any c _).mono ?_; rintro e w' ⟨rfl, rfl⟩)
        go_cut [29] (fun v29 wc => v29 = .bool (Pl.lastBl (bs.take k)) ∧ wc = wr)
        case first =>
          rcases k with _ | j
          · go_wp2
            go_meet
            case rel => exact ⟨by simp [Pl.lastBl], rfl⟩
          · have hce2 := kb_cell' (Kd.F_below HR.out (bthen hB1 HB.out)) j (by omega)
            obtain ⟨b, hb2⟩ : ∃ c, bs.getD j 0 = c := ⟨_, rfl⟩
            rw [hb2] at hce2
            have Hb := Lib.hid (show Pl.lastBl (bs.take (j + 1)) = Pl.isBl b by rw [Pl.lastBl_take (by omega), hb2])
            clear hb2
            rw [show ((j + 1 : Nat) : Int) = (j : Int) + 1 by omega]
            go_wp2_with (go_at_call 41; refine (rblank_any b _).mono ?_; rintro e w' ⟨rfl, rfl⟩)
            go_meet
            case rel => exact ⟨by rw [Hb.out, show (((j : Int) + 1) == 0) = false by rw [beq_eq_false_iff_ne]; omega]; rfl, rfl⟩
        case rest =>
          obtain ⟨b, hlb⟩ : ∃ b, Pl.lastBl (bs.take k) = b := ⟨_, rfl⟩
          rw [hlb] at hcut
          have HLB := Lib.hid hlb
          clear hlb
          obtain ⟨rfl, rfl⟩ := hcut
          have htk : bs.take (k + 1) = bs.take k ++ [c] := by rw [Pl.take_snoc hlt, HC.out]
          have Htk := Lib.hid htk
          clear htk
          have hkl : (bs.take k).length = k := by simp; omega
          have Hkl := Lib.hid hkl
          clear hkl
          go_upto_if 29 with fail
          go_cut [3] (fun v3 wd => ∃ q a t rows u, Aside0 (OutI wd w1.heap.size v3 q a t rows u) ∧ Aside0 (Pl.words at_ (bs.take (k + 1)) = q ++ [(a, t ++ [c])]) ∧ Aside0 (Below w1.heap.size w1 wd))
          case first =>
            cases b with
            | true =>
              have hlb := HLB.out
              have HN : Own kLine 26 wc w1.heap.size u3 (Pl.words at_ (bs.take k)) := by
                rcases HI.out with ⟨h1, h2⟩ | ⟨q, a, t, rows, u, h1, h2⟩
                · rw [h1, h2]; exact Own.nil _ _ _ _
                · rw [h1]; exact h2.own
              have Hnew := Lib.hid (Pl.words_new at_ (bs.take k) c hbl hlb)
              have hwl := Pl.words_len at_ (bs.take k)
              clear hlb
              obtain ⟨_, rowsN, hln, hRN, hfN⟩ := HN
              have HRN := Lib.hid hRN
              have HfN := Lib.hid hfN
              have hwr : IntKind.i64.wrap (at_ + (k : Int)) = at_ + (k : Int) := IntWalk.i64_in _ (by omega)
              rw [Hkl.out] at hwl
              clear hRN hfN
              go_wp2_with ((with_reducible refine gate_builtin (b := .append) (xs := #[.tmp 30, .tmp 36]) rfl ?_); at_builtin; refine Kd.R_append (Kd.raw 2) (w0 := w1) w1.heap.size rfl (.tmp 30) (.tmp 36) 32 26 (.agg #[(.int .i64 0), (.slice none 0 0)]) 32 rfl Try.underlying32 infoLine rfl (by decide) (by omega) u3 rowsN [.int .i64 (at_ + (k : Int)), .slice none 0 0] [.int .i64 (at_ + (k : Int)), .slice none 0 0] (fun _ => True) (fun _ => False) rfl rfl ⟨rfl, rfl, by simp [Value.oneCell']⟩ (fun _ h => h.elim) (fun _ _ => trivial) (Kd.R_mono HRN.out fun _ _ => trivial) HB.out HB.out.size (by omega) ?_; intro v5 w5 hr5 hb5 hg5 hat5)
              go_meet
              case rel => exact ⟨_, _, [], rowsN, _, ⟨OutI.new hln HfN.out hr5 hg5 hat5⟩, ⟨by rw [Htk.out, Hnew.out, Hkl.out]; rfl⟩, ⟨hb5⟩⟩
            | false =>
              have hlb := HLB.out
              obtain ⟨q, m, t, e1, e2⟩ := Pl.words_more at_ (bs.take k) c hbl hlb
              clear hlb
              have hx : ∃ rows u, OutI wc w1.heap.size u3 q m t rows u := by
                rcases HI.out with ⟨h1, h2⟩ | ⟨q', a, t', rows, u, h1, h2⟩
                · rw [h1] at e1
                  simp at e1
                · rw [h1] at e1
                  obtain ⟨rfl, e3⟩ := List.append_inj' e1 rfl
                  injection e3 with e3 _
                  injection e3 with e3 e4
                  subst e3 e4
                  exact ⟨rows, u, h2⟩
              obtain ⟨rows, u, hx⟩ := hx
              have HX := Lib.hid hx
              have HE2 := Lib.hid e2
              clear e1 e2 hx
              go_wp2
              go_meet
              case rel => exact ⟨q, m, t, rows, u, ⟨HX.out⟩, ⟨by rw [Htk.out, HE2.out]⟩, HB⟩
          case rest =>
            obtain ⟨q, a, t, rows, u, HO, HW, HD⟩ := hcut
            obtain ⟨g, cap, hv3, hg1, hg2, _⟩ := Kd.R_form HO.out.row (by simp)
            rw [show (rows ++ [[Value.int .i64 a, u]]).length = rows.length + 1 by simp] at hv3
            have hrl : rows.length ≤ k := by
              have h1 := congrArg List.length HW.out
              have h2 := Pl.words_len at_ (bs.take (k + 1))
              rw [List.length_append, ← HO.out.len] at h1
              simp at h1 h2
              omega
            obtain ⟨ru, hru⟩ : ∃ r, rows.length = r := ⟨_, rfl⟩
            rw [hru] at hrl hv3
            subst hv3
            obtain ⟨A5, c5, hu⟩ := Kd.N_slice HO.out.last
            subst hu
            have hmore := fun (w2 : World) (u1 : Value) (t1 : List UInt8) (ho : Own kb 5 w2 w1.heap.size u1 t1) (hg : wc.grownBy w2 (Value.slice A5 t.length c5).ownBlock) hat => HO.out.more ho hg hat
            rw [hru] at hmore
            have Hru := Lib.hid hru
            clear hru
            have hmo := hmore wc _ _ HO.out.last (World.grownBy.refl wc _) (.inl rfl)
            have hcu := hmo.2.1
            have hcf := (hmo.2.2.2 wc rfl).2
            have HM := Lib.hid hmo.2.2.2
            have HMore := Lib.hid hmore
            have hap := Lib.hid HO.out.apart
            clear hmore hmo
            have KXd := KX.belowW HD.out
            clear hX hXf
            obtain ⟨hX, hXf⟩ := KXd.cell
            have hce := kb_cell' (Kd.F_below HR.out (bthen hB1 HD.out)) k hlt
            rw [HC.out] at hce
            have htl : t.length ≤ 1099511627776 := by
              have := Pl.word_le at_ (bs.take (k + 1)) (a, t ++ [c]) (by rw [HW.out]; simp)
              simp at this
              omega
            have q1 : (0 : Int) ≤ (ru : Int) := by omega
            have q2 : (ru : Int) < (ru : Int) + 1 := by omega
            have q3 : (k : Int) < (bs.length : Int) := by omega
            go_upto_region 9 with fail
            go_region_law (first | (refine app1_step (w0 := w1) w1.heap.size rfl (.tmp 47) (.tmp 53) rfl (.slice A5 t.length c5) t c _ rfl rfl rfl HO.out.last.drew HD.out.drew HD.out.size (by omega) ?_; intro v6 w6 ho6 hb6 hg6 hat6; obtain ⟨A6, c6, hv6⟩ := Kd.N_slice ho6; rw [show (t ++ [c]).length = t.length + 1 by simp] at hv6; subst hv6; obtain ⟨hc6, hf6⟩ := HM.out w6 (hg6.block g hg2 (fun he => hap.out g he.symm (by simp [Value.ownBlock])))))
            all_goals
              go_wp2
              go_roundw
              case rel => exact ⟨k + 1, by go_num, ⟨by omega⟩, ⟨.inr ⟨q, a, t ++ [c], rows, _, HW.out, (HMore.out w6 _ _ ho6 ⟨hg6.os, hg6.tape, hg6.output, hg6.size, hg6.block⟩ hat6).1⟩⟩, ⟨hb6.setCell (p := ⟨g, _, none⟩) hg1 _⟩⟩
              case measure => simp [intOf]; omega
    · go_wp2
      go_ret
      have e : bs.take k = bs := List.take_of_length_le (by omega)
      have HN : Own kLine 26 wr w1.heap.size u3 (Pl.words at_ (bs.take k)) := by
        rcases HI.out with ⟨h1, h2⟩ | ⟨q, a, t, rows, u, h1, h2⟩
        · rw [h1, h2]; exact Own.nil _ _ _ _
        · rw [h1]; exact h2.own
      rw [e] at HN
      exact ⟨_, rfl, HN.lower hB1.size, bthen hB1 HB.out⟩
end Go.Proofs.Ytchbfeejpdfmhaa
