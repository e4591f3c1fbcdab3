import Derived.Test.YtchbfeejpdfmhaaBase
import Derived.Test.YtchbfeejpdfmhaaPlain
/-! creelref08.Same. -/
set_option linter.unusedSimpArgs false
set_option linter.unusedVariables false
namespace Go.Proofs.Ytchbfeejpdfmhaa
open Go.RowKit Go.Proofs.YtchbfeejpdfmhaaW.PrintWords Go.Proofs.YtchbfeejpdfmhaaW.PrintLast Go.Proofs.YtchbfeejpdfmhaaW.PrintMore

/-- Items that are the same are the same. -/
theorem same_any (x : Pl.It) (va vb va' vb' : Value) (w : World) (ha : Rd kb w va x.a) (hb : Rd kb w vb x.b) (ha' : Rd kb w va' x.a) (hb' : Rd kb w vb' x.b) :
    Calls Try.prog 28 #[.agg #[.bool x.two, va, vb, .int .i64 x.code, .int .i64 x.at_], .agg #[.bool x.two, va', vb', .int .i64 x.code, .int .i64 x.at_]] w fun e w' => e = .returned (.bool true) ∧ Below w.heap.size w w' := by
  obtain ⟨A1, c1, h1⟩ := Kd.V_slice ha
  obtain ⟨A2, c2, h2⟩ := Kd.V_slice hb
  obtain ⟨A3, c3, h3⟩ := Kd.V_slice ha'
  obtain ⟨A4, c4, h4⟩ := Kd.V_slice hb'
  subst h1 h2 h3 h4
  have Hz := Lib.hid ha
  have Hb := Lib.hid hb
  have Hc := Lib.hid ha'
  have Hd := Lib.hid hb'
  clear ha hb ha' hb'
  obtain ⟨w1, hw1⟩ : ∃ w1, (w.alloc (.cells #[.bool x.two, .slice A1 x.a.length c1, .slice A2 x.b.length c2, .int .i64 x.code, .int .i64 x.at_] 36)).alloc (.cells #[.bool x.two, .slice A3 x.a.length c3, .slice A4 x.b.length c4, .int .i64 x.code, .int .i64 x.at_] 36) = w1 := ⟨_, rfl⟩
  have HB : Below w.heap.size w w1 := by rw [← hw1]; exact below_alloc (below_alloc (Below.refl _ _) _) _
  have e1 := byte_string (Rd.below Hz.out HB)
  have e2 := byte_string (Rd.below Hb.out HB)
  have e3 := byte_string (Rd.below Hc.out HB)
  have e4 := byte_string (Rd.below Hd.out HB)
  rw [← hw1] at e1 e2 e3 e4 HB
  have HBH := Lib.hid HB
  clear hw1 HB
  go_enter Try.func28, Try.ntmps28
  go_wp2_with fail
  go_ret
  exact ⟨by simp, HBH.out⟩
end Go.Proofs.Ytchbfeejpdfmhaa
