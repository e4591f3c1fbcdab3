import Derived.Test.YtjdcejbblcbjpaaDoorAdj
/-! Rows of bytes. -/
set_option linter.unusedSimpArgs false
set_option linter.unusedVariables false
namespace Go.Proofs.YtjdcejbblcbjpaaDoor
open Go.RowKit Go.Proofs.YtjdcejbblcbjpaaDoorW.PrintWords Go.Proofs.YtjdcejbblcbjpaaDoorW.PrintLast Go.Proofs.YtjdcejbblcbjpaaDoorW.PrintMore
theorem bytesK_here : True := trivial
theorem n_rd {α : Type} {d : Kd α} {e base : Nat} {w : World} {ok : Nat → Prop} {v : Value} {xs : List α} (h : Kd.N d e w base ok v xs) : Rd d w v xs := by
  obtain ⟨A, c, he, hl, hf⟩ := Kd.N_V (base' := 0) h
  exact Kd.V_mono ⟨A, c, he, hl, hf⟩ (fun _ _ => trivial)
/-- A row of bytes. -/
def kBytes : Kd (List UInt8) := Kd.slice 5 kb
theorem infoBytes : (Tryd.prog.info? 22).map (fun i => (i.zero, i.size, i.bytes)) = some (some (.slice none 0 0), kBytes.sz, 24) := by kernel_rfl
theorem bytes_FK {w : World} {ok : Nat → Prop} {vB : Value} {bs : List UInt8} (h : Kd.V kb 0 w 0 ok vB bs) : Kd.FK kBytes w ok bs [vB] := by
  obtain ⟨A, c, rfl, hl, hF⟩ := h
  exact fun W' hW => ⟨A, c, rfl, hl, hF W' hW⟩
theorem bytes_open {w : World} {ok : Nat → Prop} {x : List UInt8} {cs : List Value} (h : Kd.FK kBytes w ok x cs) : ∃ A c, cs = [.slice A x.length c] ∧ Kd.V kb 0 w 0 ok (.slice A x.length c) x := by
  obtain ⟨A, c, rfl, hl, _⟩ := Kd.FK_now h
  refine ⟨_, _, rfl, A, c, rfl, hl, fun W' hW => ?_⟩
  obtain ⟨A', c', he, hl', hC⟩ := h W' hW
  simp at he
  rw [he.1]
  exact hC
theorem bytes_own {w : World} {v : Value} {e base : Nat} {ok : Nat → Prop} {xs : List (List UInt8)} (h : Kd.N kBytes e w base ok v xs) (hp : 0 < xs.length) :
    ∃ g cap, v = .slice (some ⟨g, 0, none⟩) xs.length cap ∧ g < w.heap.size ∧ ∀ (i : Nat) (x : List UInt8), xs[i]? = some x → ∃ A2 c2, Kd.V kb 0 w 0 ok (.slice A2 x.length c2) x ∧ w.cell? ⟨g, i, none⟩ = some (.slice A2 x.length c2) := by
  obtain ⟨g, cap, rfl, _, hg, _⟩ := Kd.N_form h hp
  refine ⟨g, cap, rfl, hg, fun i x hx => ?_⟩
  obtain ⟨ad, cs, he, hK, hc⟩ := row_get (Kd.N_F h) i x hx
  injection he with he
  subst he
  obtain ⟨A2, c2, rfl, hV⟩ := bytes_open hK
  have e0 := hc 0 _ rfl
  rw [add_plain] at e0
  exact ⟨A2, c2, hV, by simpa [kBytes, Kd.slice] using e0⟩

end Go.Proofs.YtjdcejbblcbjpaaDoor
