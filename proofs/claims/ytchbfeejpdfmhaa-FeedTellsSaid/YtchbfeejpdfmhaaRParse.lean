import Derived.Test.YtchbfeejpdfmhaaRef8
import Derived.Test.YtchbfeejpdfmhaaRWords
import Derived.Test.YtchbfeejpdfmhaaParse
/-! creelref08.Parse. -/
set_option linter.unusedSimpArgs false
set_option linter.unusedVariables false
namespace Go.Proofs.Ytchbfeejpdfmhaa
open Go.RowKit Go.Proofs.YtchbfeejpdfmhaaW.PrintWords Go.Proofs.YtchbfeejpdfmhaaW.PrintLast Go.Proofs.YtchbfeejpdfmhaaW.PrintMore

set_option maxRecDepth 100000 in
set_option maxHeartbeats 4000000 in
theorem rparse_any (v : Value) (at_ : Int) (bs : List UInt8) (num : Bool) (w : World) (hv : Rd kb w v bs) (ha : 0 ≤ at_) (hb : at_ ≤ 4611686018427387904) (hl : bs.length ≤ 1099511627776) :
    Calls Try.prog 17 #[.agg #[.int .i64 at_, v], .bool num] w (ItSaid (Pl.edge at_ bs num) w) := by
  have HR := Lib.hid hv
  obtain ⟨A0, c0, rfl, hc0, _⟩ := hv
  go_enter Try.func17, Try.ntmps17
  go_wp2_with fail
  refine calls_at fun W0 hW0 => ?_
  have HB0 : Below w.heap.size w W0 := by
    rw [← hW0]
    exact below_alloc (below_alloc (Below.refl _ _) _) _
  have KX := (Blk.new w #[.int .i64 at_, .slice A0 bs.length c0] 26).alloc (.cells #[.bool false, .slice none 0 0, .slice none 0 0, .int .i64 0, .int .i64 0] 36)
  have KI := Blk.new (w.alloc (.cells #[.int .i64 at_, .slice A0 bs.length c0] 26)) #[.bool false, .slice none 0 0, .slice none 0 0, .int .i64 0, .int .i64 0] 36
  rw [hW0] at KX KI
  rw [World.size_alloc] at KI
  clear hW0
  refine (rwords_any _ at_ bs _ (Rd.below HR.out HB0) ha hb hl).mono ?_
  rintro e w1 ⟨v1, rfl, ho1, hb1⟩
  obtain ⟨A1, c1, hv1⟩ := Kd.N_slice ho1
  subst hv1
  have HO1 := Lib.hid ho1
  have HB1 := bthen HB0 hb1
  replace KX := KX.belowW hb1
  replace KI := KI.belowW hb1
  clear ho1 hb1 HB0
  obtain ⟨ws, hws⟩ : ∃ ws, Pl.words at_ bs = ws := ⟨_, rfl⟩
  rw [hws] at HO1 ⊢
  have HW := Lib.hid hws
  clear hws
  obtain ⟨hX, hXf⟩ := KX.cell
  by_cases h2 : ws.length = 2
  · obtain ⟨⟨x1, xb⟩, ⟨y1, yb⟩, rfl⟩ : ∃ x y, ws = [x, y] := by
      rcases ws with _ | ⟨x, _ | ⟨y, _ | ⟨z, r⟩⟩⟩
      · simp at h2
      · simp at h2
      · exact ⟨x, y, rfl⟩
      · simp at h2
    clear h2
    obtain ⟨gl, capl, hvl, hgl, hget⟩ := line_own HO1.out (by simp)
    injection hvl with hvl1 _ hvl2
    subst hvl1 hvl2
    obtain ⟨A2, c2, hVx, hx0, hx1⟩ := hget 0 _ rfl
    obtain ⟨A3, c3, hVy, hy0, hy1⟩ := hget 1 _ rfl
    simp only [Nat.zero_mul, Nat.zero_add, Nat.one_mul, Nat.reduceAdd] at hx0 hx1 hy0 hy1
    clear hget
    have HQ1 := Lib.hid KI.lt
    have HE := Lib.hid (show Pl.edge at_ bs num = match Pl.label xb num with | none => Pl.bad 81 x1 | some a => match Pl.label yb num with | none => Pl.bad 81 y1 | some b => ⟨true, a, b, 0, 0⟩ by
      unfold Pl.edge
      rw [HW.out]
      rfl)
    go_wp2_with fail
    refine (rlabel_any _ xb num _ (Kd.V_mono hVx (fun _ _ => trivial))).mono ?_
    rintro e W3 ⟨va, rfl, hoa, hba⟩
    obtain ⟨A4, c4, hva⟩ := Kd.N_slice hoa
    subst hva
    have HOA := Lib.hid hoa
    replace KI := KI.belowW hba
    have HBw := Lib.hid hba
    have HB3 := bthen HB1 hba
    have hz3 := hba.size
    have hgl3 : gl < W3.heap.size := by omega
    have hx0' := (hba.cell (p := ⟨gl, 0, none⟩) hgl).trans hx0
    have hx1' := (hba.cell (p := ⟨gl, 1, none⟩) hgl).trans hx1
    have hy0' := (hba.cell (p := ⟨gl, 2, none⟩) hgl).trans hy0
    have hy1' := (hba.cell (p := ⟨gl, 3, none⟩) hgl).trans hy1
    clear hoa hba hx0 hx1 hy0 hy1 hX hXf
    rcases hla : Pl.label xb num with _ | la
    · have HLA := Lib.hid hla
      clear hla
      go_wp2_with ((with_reducible refine gate_ (.store 36 (.tmp 4) (.tmp 33)) rfl ?_); refine store_blk rfl rfl 36 (.tmp 4) (.tmp 33) rfl (w.heap.size + 1) 0 _ _ 36 (.agg #[.bool false, .slice none 0 0, .slice none 0 0, .int .i64 81, .int .i64 x1]) [.bool false, .slice none 0 0, .slice none 0 0, .int .i64 81, .int .i64 x1] rfl rfl rfl sizeItem (by simp [Value.oneCell']) KI (by simp) rfl ?_; intro W8 KI8 hp8; obtain ⟨hI8, hIf8⟩ := KI8.cell)
      refine bodyPost_ret (v := .agg #[.bool false, .slice none 0 0, .slice none 0 0, .int .i64 81, .int .i64 x1]) (by simp [results, Try.results17, go_sem, hI8]) rfl ?_
      rw [HE.out, HLA.out]
      exact ⟨_, _, rfl, Own.nil _ _ _ _, Own.nil _ _ _ _, hp8.bel HB3 (by omega)⟩
    · have HLA := Lib.hid hla
      rw [hla] at HOA
      clear hla
      simp only [Option.isSome_some, Option.getD_some] at HOA ⊢
      go_wp2_with fail
      refine (rlabel_any _ yb num _ (Kd.V_mono (Kd.V_below hVy HBw.out) (fun _ _ => trivial))).mono ?_
      rintro e W5 ⟨va, rfl, hoa, hba⟩
      obtain ⟨A5, c5, hva⟩ := Kd.N_slice hoa
      subst hva
      have HOB := Lib.hid hoa
      replace KI := KI.belowW hba
      have HOA5 := Lib.hid (HOA.out.below hba)
      have HB5 := bthen HB3 hba
      have hz5 := hba.size
      have hy0 := (hba.cell (p := ⟨gl, 2, none⟩) hgl3).trans hy0'
      have hy1 := (hba.cell (p := ⟨gl, 3, none⟩) hgl3).trans hy1'
      clear hoa hba hx0' hx1' hy0' hy1' HOA
      rcases hlb : Pl.label yb num with _ | lb
      · have HLB := Lib.hid hlb
        clear hlb
        go_wp2_with ((with_reducible refine gate_ (.store 36 (.tmp 4) (.tmp 49)) rfl ?_); refine store_blk rfl rfl 36 (.tmp 4) (.tmp 49) rfl (w.heap.size + 1) 0 _ _ 36 (.agg #[.bool false, .slice none 0 0, .slice none 0 0, .int .i64 81, .int .i64 y1]) [.bool false, .slice none 0 0, .slice none 0 0, .int .i64 81, .int .i64 y1] rfl rfl rfl sizeItem (by simp [Value.oneCell']) KI (by simp) rfl ?_; intro W8 KI8 hp8; obtain ⟨hI8, hIf8⟩ := KI8.cell)
        refine bodyPost_ret (v := .agg #[.bool false, .slice none 0 0, .slice none 0 0, .int .i64 81, .int .i64 y1]) (by simp [results, Try.results17, go_sem, hI8]) rfl ?_
        rw [HE.out, HLA.out, HLB.out]
        exact ⟨_, _, rfl, Own.nil _ _ _ _, Own.nil _ _ _ _, hp8.bel HB5 (by omega)⟩
      · have HLB := Lib.hid hlb
        rw [hlb] at HOB
        clear hlb
        simp only [Option.isSome_some, Option.getD_some] at HOB ⊢
        have hKI := KI.lt
        have hz1 := HB1.size
        go_wp2_with ((with_reducible refine gate_ (.store 36 (.tmp 4) (.tmp 52)) rfl ?_); refine store_blk rfl rfl 36 (.tmp 4) (.tmp 52) rfl (w.heap.size + 1) 0 _ _ 36 (.agg #[.bool true, .slice A4 la.length c4, .slice A5 lb.length c5, .int .i64 0, .int .i64 0]) [.bool true, .slice A4 la.length c4, .slice A5 lb.length c5, .int .i64 0, .int .i64 0] rfl rfl rfl sizeItem (by simp [Value.oneCell']) KI (by simp) rfl ?_; intro W8 KI8 hp8; obtain ⟨hI8, hIf8⟩ := KI8.cell)
        refine bodyPost_ret (v := .agg #[.bool true, .slice A4 la.length c4, .slice A5 lb.length c5, .int .i64 0, .int .i64 0]) (by simp [results, Try.results17, go_sem, hI8]) rfl ?_
        rw [HE.out, HLA.out, HLB.out]
        exact ⟨_, _, rfl, (hp8.own HOA5.out HQ1.out).lower (by omega), (hp8.own HOB.out (by have := HQ1.out; omega)).lower (by omega), hp8.bel HB5 (by omega)⟩
  · have hd : (((ws.length : Int)) != 2) = true := by rw [bne_iff_ne]; omega
    have hE : Pl.edge at_ bs num = Pl.bad 80 at_ := by
      unfold Pl.edge
      rw [HW.out]
      rcases ws with _ | ⟨x, _ | ⟨y, _ | ⟨z, r⟩⟩⟩
      · rfl
      · rfl
      · simp at h2
      · rfl
    have HE := Lib.hid hE
    clear hE
    go_wp2_with ((with_reducible refine gate_ (.store 36 (.tmp 4) (.tmp 17)) rfl ?_); refine store_blk rfl rfl 36 (.tmp 4) (.tmp 17) rfl (w.heap.size + 1) 0 _ _ 36 (.agg #[.bool false, .slice none 0 0, .slice none 0 0, .int .i64 80, .int .i64 at_]) [.bool false, .slice none 0 0, .slice none 0 0, .int .i64 80, .int .i64 at_] rfl rfl rfl sizeItem (by simp [Value.oneCell']) KI (by simp) rfl ?_; intro W8 KI8 hp8; obtain ⟨hI8, hIf8⟩ := KI8.cell)
    refine bodyPost_ret (v := .agg #[.bool false, .slice none 0 0, .slice none 0 0, .int .i64 80, .int .i64 at_]) (by simp [results, Try.results17, go_sem, hI8]) rfl ?_
    rw [HE.out]
    exact ⟨_, _, rfl, Own.nil _ _ _ _, Own.nil _ _ _ _, hp8.bel HB1 (by omega)⟩
end Go.Proofs.Ytchbfeejpdfmhaa
