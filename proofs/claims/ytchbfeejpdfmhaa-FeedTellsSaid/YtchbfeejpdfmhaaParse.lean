import Derived.LoopN
import Derived.Test.YtchbfeejpdfmhaaLabel
import Derived.Test.YtchbfeejpdfmhaaWords
/-! edge.Parse. -/
set_option linter.unusedSimpArgs false
set_option linter.unusedVariables false
namespace Go.Proofs.Ytchbfeejpdfmhaa
open Go.RowKit Go.Proofs.YtchbfeejpdfmhaaW.PrintWords Go.Proofs.YtchbfeejpdfmhaaW.PrintLast Go.Proofs.YtchbfeejpdfmhaaW.PrintMore

/-- What answers an item of the call's own. -/
def ItSaid (x : Pl.It) (w : World) (e : Ending) (w' : World) : Prop :=
  ∃ va vb : Value, e = .returned (.agg #[.bool x.two, va, vb, .int .i64 x.code, .int .i64 x.at_]) ∧ Own kb 5 w' w.heap.size va x.a ∧ Own kb 5 w' w.heap.size vb x.b ∧ Below w.heap.size w w'

set_option maxRecDepth 100000 in
set_option maxHeartbeats 4000000 in
theorem parse_any (v : Value) (at_ : Int) (bs : List UInt8) (num : Bool) (w : World) (hv : Rd kb w v bs) (ha : 0 ≤ at_) (hb : at_ ≤ 4611686018427387904) (hl : bs.length ≤ 1099511627776) :
    Calls Try.prog 54 #[.agg #[.int .i64 at_, v], .bool num] w (ItSaid (Pl.edge at_ bs num) w) := by
  have HR := Lib.hid hv
  obtain ⟨A0, c0, rfl, hc0, _⟩ := hv
  go_enter Try.func54, Try.ntmps54
  go_wp2_with fail
  refine calls_at fun W0 hW0 => ?_
  have HB0 : Below w.heap.size w W0 := by
    rw [← hW0]
    exact below_alloc (below_alloc (Below.refl _ _) _) _
  have KX := (Blk.new w #[.int .i64 at_, .slice A0 bs.length c0] 26).alloc (.cells #[.bool false, .slice none 0 0, .slice none 0 0, .int .i64 0, .int .i64 0] 36)
  have KI := Blk.new (w.alloc (.cells #[.int .i64 at_, .slice A0 bs.length c0] 26)) #[.bool false, .slice none 0 0, .slice none 0 0, .int .i64 0, .int .i64 0] 36
  rw [hW0] at KX KI
  rw [World.size_alloc] at KI
  clear hW0
  refine (words_any _ at_ bs _ (Rd.below HR.out HB0) ha hb hl).mono ?_
  rintro e w1 ⟨v1, rfl, ho1, hb1⟩
  obtain ⟨A1, c1, hv1⟩ := Kd.N_slice ho1
  subst hv1
  have HO1 := Lib.hid ho1
  have HB1 := bthen HB0 hb1
  replace KX := KX.belowW hb1
  replace KI := KI.belowW hb1
  clear ho1 hb1 HB0
  obtain ⟨hX, hXf⟩ := KX.cell
  obtain ⟨hI, hIf⟩ := KI.cell
  obtain ⟨ws, hws⟩ : ∃ ws, Pl.words at_ bs = ws := ⟨_, rfl⟩
  rw [hws] at HO1 ⊢
  have HW := Lib.hid hws
  clear hws
  by_cases h2 : ws.length = 2
  · obtain ⟨⟨x1, xb⟩, ⟨y1, yb⟩, rfl⟩ : ∃ x y, ws = [x, y] := by
      rcases ws with _ | ⟨x, _ | ⟨y, _ | ⟨z, r⟩⟩⟩
      · simp at h2
      · simp at h2
      · exact ⟨x, y, rfl⟩
      · simp at h2
    clear h2
    obtain ⟨gl, capl, hvl, hgl, hget⟩ := line_own HO1.out (by simp)
    injection hvl with hvl1 _ hvl2
    subst hvl1 hvl2
    obtain ⟨A2, c2, hVx, hx0, hx1⟩ := hget 0 _ rfl
    obtain ⟨A3, c3, hVy, hy0, hy1⟩ := hget 1 _ rfl
    simp only [Nat.zero_mul, Nat.zero_add, Nat.one_mul, Nat.reduceAdd] at hx0 hx1 hy0 hy1
    clear hget
    have q1 : w1.heap.size ≠ gl := by omega
    have hzI := KI.lt
    have qI : w.heap.size + 1 ≠ w1.heap.size := by omega
    have qI' : w1.heap.size ≠ w.heap.size + 1 := by omega
    have HE := Lib.hid (show Pl.edge at_ bs num = match Pl.label xb num with | none => Pl.bad 81 x1 | some a => match Pl.label yb num with | none => Pl.bad 81 y1 | some b => ⟨true, a, b, 0, 0⟩ by
      unfold Pl.edge
      rw [HW.out]
      rfl)
    go_wp2_with fail
    refine wp_loop_rounds 3 ?_
    rw [rounds_succ]
    go_wp2_with fail
    refine calls_at fun W2 hW2 => ?_
    have HBw : Below w1.heap.size w1 W2 := by rw [← hW2]; exact below_alloc (below_alloc (Below.refl _ _) _) _
    have KA := (Blk.new w1 #[.slice none 0 0, .slice none 0 0] 82).alloc (.cells #[.int .i64 x1, .slice A2 xb.length c2] 26)
    have KB := Blk.new (w1.alloc (.cells #[.slice none 0 0, .slice none 0 0] 82)) #[.int .i64 x1, .slice A2 xb.length c2] 26
    rw [hW2] at KA KB
    rw [World.size_alloc] at KB
    have hzA := KA.lt
    have HBw2 := Lib.hid (show w.heap.size + 2 ≤ W2.heap.size by omega)
    clear hW2 hX hXf hI hIf
    refine (label_any _ xb num _ (Kd.V_mono (Kd.V_below hVx HBw) (fun _ _ => trivial))).mono ?_
    rintro e W3 ⟨va, rfl, hoa, hba⟩
    obtain ⟨A4, c4, hva⟩ := Kd.N_slice hoa
    subst hva
    have HOA := Lib.hid hoa
    replace KA := KA.belowW hba
    replace KB := KB.belowW hba
    replace KI := (KI.belowW HBw).belowW hba
    replace HBw := bthen HBw hba
    have HB3 := bthen HB1 HBw
    have hz3 := HBw.size
    clear hoa hba
    obtain ⟨hA, hAf⟩ := KA.cell
    obtain ⟨hC, hCf⟩ := KB.cell
    obtain ⟨hI, hIf⟩ := KI.cell
    rcases hla : Pl.label xb num with _ | la
    · have HLA := Lib.hid hla
      clear hla
      clear hI hIf
      go_wp2_with ((with_reducible refine gate_ (.store 36 (.tmp 4) (.tmp 37)) rfl ?_); refine store_blk rfl rfl 36 (.tmp 4) (.tmp 37) rfl (w.heap.size + 1) 0 _ _ 36 (.agg #[.bool false, .slice none 0 0, .slice none 0 0, .int .i64 81, .int .i64 x1]) [.bool false, .slice none 0 0, .slice none 0 0, .int .i64 81, .int .i64 x1] rfl rfl rfl sizeItem (by simp [Value.oneCell']) KI (by simp) rfl ?_; intro W8 KI8 hp8; obtain ⟨hI8, hIf8⟩ := KI8.cell)
      refine bodyPost_ret (v := .agg #[.bool false, .slice none 0 0, .slice none 0 0, .int .i64 81, .int .i64 x1]) (by simp [results, Try.results54, go_sem, hI8]) rfl ?_
      rw [HE.out, HLA.out]
      exact ⟨_, _, rfl, Own.nil _ _ _ _, Own.nil _ _ _ _, hp8.bel HB3 (by omega)⟩
    · have HLA := Lib.hid hla
      rw [hla] at HOA
      clear hla
      have hy0' := (HBw.cell (p := ⟨gl, 2, none⟩) hgl).trans hy0
      have hy1' := (HBw.cell (p := ⟨gl, 3, none⟩) hgl).trans hy1
      have q3 : W3.heap.size ≠ gl := by omega
      have q4 : gl ≠ w1.heap.size := by omega
      clear hx0 hx1 hy0 hy1 q1
      simp only [Option.isSome_some, Option.getD_some] at HOA ⊢
      go_wp2_with fail
      rw [rounds_succ]
      go_wp2_with fail
      refine calls_at fun W4 hW4 => ?_
      have HBw4 : Below w1.heap.size w1 W4 := by rw [← hW4]; exact below_alloc (bset HBw (Nat.le_refl _) _) _
      have KA4 := (KA.set 0 (.slice A4 la.length c4) rfl).alloc (.cells #[.int .i64 y1, .slice A3 yb.length c3] 26)
      have KB4 := Blk.new (W3.setCell ⟨w1.heap.size, 0, none⟩ (.slice A4 la.length c4)) #[.int .i64 y1, .slice A3 yb.length c3] 26
      have KI4 := (KI.far (p := ⟨w1.heap.size, 0, none⟩) (by simp; omega) (.slice A4 la.length c4)).alloc (.cells #[.int .i64 y1, .slice A3 yb.length c3] 26)
      have HOA4 := ((HOA.out.far (p := ⟨w1.heap.size, 0, none⟩) (by simp; omega) (.slice A4 la.length c4)).alloc (.cells #[.int .i64 y1, .slice A3 yb.length c3] 26))
      rw [hW4] at KA4 KB4 KI4 HOA4
      have hzB : w1.heap.size < W4.heap.size := KA4.lt
      rw [World.size_setCell] at KB4
      clear hW4 hA hAf hC hCf hI hIf KA KB KI hy0' hy1'
      refine (label_any _ yb num _ (Kd.V_mono (Kd.V_below hVy HBw4) (fun _ _ => trivial))).mono ?_
      rintro e W5 ⟨va, rfl, hoa, hba⟩
      obtain ⟨A5, c5, hva⟩ := Kd.N_slice hoa
      subst hva
      have HOB := Lib.hid hoa
      replace KA4 := KA4.belowW hba
      replace KB4 := KB4.belowW hba
      replace KI4 := KI4.belowW hba
      have HOA5 := Lib.hid (HOA4.below hba)
      replace HBw4 := bthen HBw4 hba
      have HB5 := bthen HB1 HBw4
      clear hoa hba HOA4
      obtain ⟨hA, hAf⟩ := KA4.cell
      obtain ⟨hC, hCf⟩ := KB4.cell
      obtain ⟨hI, hIf⟩ := KI4.cell
      rcases hlb : Pl.label yb num with _ | lb
      · have HLB := Lib.hid hlb
        clear hlb
        clear hI hIf
        go_wp2_with ((with_reducible refine gate_ (.store 36 (.tmp 4) (.tmp 37)) rfl ?_); refine store_blk rfl rfl 36 (.tmp 4) (.tmp 37) rfl (w.heap.size + 1) 0 _ _ 36 (.agg #[.bool false, .slice none 0 0, .slice none 0 0, .int .i64 81, .int .i64 y1]) [.bool false, .slice none 0 0, .slice none 0 0, .int .i64 81, .int .i64 y1] rfl rfl rfl sizeItem (by simp [Value.oneCell']) KI4 (by simp) rfl ?_; intro W8 KI8 hp8; obtain ⟨hI8, hIf8⟩ := KI8.cell)
        refine bodyPost_ret (v := .agg #[.bool false, .slice none 0 0, .slice none 0 0, .int .i64 81, .int .i64 y1]) (by simp [results, Try.results54, go_sem, hI8]) rfl ?_
        rw [HE.out, HLA.out, HLB.out]
        exact ⟨_, _, rfl, Own.nil _ _ _ _, Own.nil _ _ _ _, hp8.bel HB5 (by omega)⟩
      · have HLB := Lib.hid hlb
        rw [hlb] at HOB
        clear hlb
        simp only [Option.isSome_some, Option.getD_some] at HOB ⊢
        go_wp2_with fail
        refine wp_at fun W6 hW6 => ?_
        have KA6 := KA4.set 1 (.slice A5 lb.length c5) rfl
        have KI6 := KI4.far (p := ⟨w1.heap.size, 1, none⟩) qI (.slice A5 lb.length c5)
        have HOA6 := HOA5.out.far (p := ⟨w1.heap.size, 1, none⟩) (by simp; omega) (.slice A5 lb.length c5)
        have HOB6 := HOB.out.far (p := ⟨w1.heap.size, 1, none⟩) hzB (.slice A5 lb.length c5)
        have HB6 := bset HB5 (p := ⟨w1.heap.size, 1, none⟩) HB1.size (.slice A5 lb.length c5)
        rw [hW6] at KA6 KI6 HOA6 HOB6 HB6
        clear hW6 KA4 KI4 KB4 hA hAf hC hCf hI hIf HBw4 HBw HOA HOB HOA5
        have HOA := Lib.hid HOA6
        have HOB := Lib.hid HOB6
        have hbb := HB3.size
        have hbc := HBw2.out
        clear HOA6 HOB6
        obtain ⟨hA, hAf⟩ := KA6.cell
        go_wp2_with ((with_reducible refine gate_ (.store 36 (.tmp 4) (.tmp 46)) rfl ?_); refine store_blk rfl rfl 36 (.tmp 4) (.tmp 46) rfl (w.heap.size + 1) 0 _ _ 36 (.agg #[.bool true, .slice A4 la.length c4, .slice A5 lb.length c5, .int .i64 0, .int .i64 0]) [.bool true, .slice A4 la.length c4, .slice A5 lb.length c5, .int .i64 0, .int .i64 0] rfl rfl rfl sizeItem (by simp [Value.oneCell']) KI6 (by simp) rfl ?_; intro W8 KI8 hp8; obtain ⟨hI8, hIf8⟩ := KI8.cell)
        refine bodyPost_ret (v := .agg #[.bool true, .slice A4 la.length c4, .slice A5 lb.length c5, .int .i64 0, .int .i64 0]) (by simp [results, Try.results54, go_sem, hI8]) rfl ?_
        rw [HE.out, HLA.out, HLB.out]
        exact ⟨_, _, rfl, (hp8.own HOA.out (by omega)).lower (by omega), (hp8.own HOB.out (by omega)).lower (by omega), hp8.bel HB6 (by omega)⟩
  · have hd : (((ws.length : Int)) != 2) = true := by rw [bne_iff_ne]; omega
    have hE : Pl.edge at_ bs num = Pl.bad 80 at_ := by
      unfold Pl.edge
      rw [HW.out]
      rcases ws with _ | ⟨x, _ | ⟨y, _ | ⟨z, r⟩⟩⟩
      · rfl
      · rfl
      · simp at h2
      · rfl
    have HE := Lib.hid hE
    clear hE
    clear hI hIf hX hXf
    obtain ⟨hX, hXf⟩ := KX.cell
    go_wp2_with ((with_reducible refine gate_ (.store 36 (.tmp 4) (.tmp 18)) rfl ?_); refine store_blk rfl rfl 36 (.tmp 4) (.tmp 18) rfl (w.heap.size + 1) 0 _ _ 36 (.agg #[.bool false, .slice none 0 0, .slice none 0 0, .int .i64 80, .int .i64 at_]) [.bool false, .slice none 0 0, .slice none 0 0, .int .i64 80, .int .i64 at_] rfl rfl rfl sizeItem (by simp [Value.oneCell']) KI (by simp) rfl ?_; intro W8 KI8 hp8; obtain ⟨hI8, hIf8⟩ := KI8.cell)
    refine bodyPost_ret (v := .agg #[.bool false, .slice none 0 0, .slice none 0 0, .int .i64 80, .int .i64 at_]) (by simp [results, Try.results54, go_sem, hI8]) rfl ?_
    rw [HE.out]
    exact ⟨_, _, rfl, Own.nil _ _ _ _, Own.nil _ _ _ _, hp8.bel HB1 (by omega)⟩
end Go.Proofs.Ytchbfeejpdfmhaa
