import Derived.Test.YtjdcejbblcbjpaaDoorBJoin
import Derived.SizedLaws
import Derived.ChangeSlices
import Derived.ChangeArms
import Derived.Lib.LaidU8T
import Derived.Handed
import Derived.Shelf.Vars
/-! A row of bytes as an argument; the tables that the call begins with; the wrap that keeps the world's shape. -/
set_option linter.unusedSimpArgs false
set_option linter.unusedVariables false
namespace Go.Proofs.YtjdcejbblcbjpaaDoor
open Go.RowKit Go.ChangeShapes Go.WideShapes Go.ChangeAt Go.ChangeMaps Go.Deep Go.Proofs.YtjdcejbblcbjpaaDoorW.PrintWords Go.Proofs.YtjdcejbblcbjpaaDoorW.PrintLast Go.Proofs.YtjdcejbblcbjpaaDoorW.PrintMore

section
variable {H : Type} {enc : TypeId × Value → H} {w : World} {base : Nat} {held : Bool}
/-- Bytes as an argument, and that their length is no greater than one of the argument's weights. -/
theorem open_bytes {fuel : Nat} {cs : List Value} {x : DataW H × List MemPlace} (h : DataW.trod enc Tryd.prog w base (fun _ => true) held fuel 22 cs = some x) : ∃ (A : Option Addr) (l : List UInt8) (c : Nat), cs = [.slice A l.length c] ∧ Rd kb w (.slice A l.length c) l ∧ (l = [] ∨ ∃ n ∈ x.1.weights Tryd.prog 22, l.length ≤ n) := by
  rcases open_ints Tryd.underlying22 Tryd.underlying5 (by kernel_rfl) h with ⟨hcs, _⟩ | ⟨a, len, cap, zs, hcs, _, hl, hm, hz, hx, hcell, hwz⟩
  · exact ⟨none, [], 0, hcs, Rd.nil _ _, Or.inl rfl⟩
  · replace hz : zs.length = cap := by simpa using hz
    have hR := rd_of_cells (W := w) (x := a) (len := len) (cap := cap) (zs := zs) hl hm hz hcell (fun n hn => by have := wf_u8 (hwz n hn); omega)
    have hlen : ((zs.take len).map fun n => UInt8.ofNat n.toNat).length = len := by simp; omega
    refine ⟨some a, (zs.take len).map fun n => UInt8.ofNat n.toNat, cap, by rw [hlen]; exact hcs, by rw [hlen]; exact hR, Or.inr ⟨cap, ?_, by rw [hlen]; exact hl⟩⟩
    rw [hx]
    have hb : Tryd.prog.bytesOf 5 = 1 := by kernel_rfl
    simp only [DataW.weights, Tryd.underlying22, hb]
    refine List.mem_cons.2 (Or.inl ?_)
    simp [lits]
    omega
/-- A row of bytes as an argument. -/
theorem open_rowbytes {fuel : Nat} {v : Value} {x : DataW H × List MemPlace} (h : DataW.trod enc Tryd.prog w base (fun _ => true) held fuel 23 [v] = some x) : ∃ ls : List (List UInt8), Rd kBytes w v ls ∧ ∀ l ∈ ls, l = [] ∨ ∃ n ∈ x.1.weights Tryd.prog 23, l.length ≤ n := by
  have hC : Tryd.prog.cellsOf 22 = 1 := by kernel_rfl
  rcases DataW.trod_slice Tryd.underlying23 h with ⟨hcs, _⟩ | ⟨a, len, cap, elems, rest, n, _, hcs, hx, hb, hl, hm, hlen, hel, _, _⟩
  · simp only [List.cons.injEq, and_true] at hcs
    subst hcs
    exact ⟨[], Rd.nil _ _, fun f hf => by simp at hf⟩
  · simp only [List.cons.injEq, and_true] at hcs
    subst hcs
    obtain ⟨ls, hfl, hfs⟩ := list_of' len (fun i (l : List UInt8) => (∃ A c, w.cells? base (a.add (i * 1)) 1 = some [.slice A l.length c] ∧ Rd kb w (.slice A l.length c) l) ∧ (l = [] ∨ ∃ n ∈ x.1.weights Tryd.prog 23, l.length ≤ n)) (fun i hi => by
      have h1 := hel i hi
      have hie : i < elems.length := by omega
      rw [hC, List.getElem?_eq_getElem hie] at h1
      obtain ⟨c, hc, ht⟩ := Option.bind_eq_some_iff.1 h1
      obtain ⟨A, l, c2, rfl, hR, hn⟩ := open_bytes ht
      refine ⟨l, ⟨A, c2, hc, hR⟩, ?_⟩
      rcases hn with hn | ⟨m, hm1, hm2⟩
      · exact Or.inl hn
      · refine Or.inr ⟨m, ?_, hm2⟩
        rw [hx]
        simp only [DataW.weights, Tryd.underlying23]
        refine List.mem_cons_of_mem _ (List.mem_append_left _ ?_)
        have hall : ∀ (ds : List (DataW H)) (d : DataW H), d ∈ ds → ∀ m ∈ d.weights Tryd.prog 22, m ∈ DataW.weightsAll Tryd.prog 22 ds := by
          intro ds
          induction ds with
          | nil => intro d hd; simp at hd
          | cons d0 r ih =>
            intro d hd m hm
            simp only [DataW.weightsAll, List.mem_append]
            rcases List.mem_cons.1 hd with rfl | hd
            · exact Or.inl hm
            · exact Or.inr (ih d hd m hm)
        exact hall _ _ (List.mem_map.2 ⟨elems[i], List.getElem_mem _, rfl⟩) m hm1)
    refine ⟨ls, ⟨some a, cap, by rw [hfl], by omega, ?_⟩, fun f hf => ?_⟩
    · refine Kd.F_mono (ok := fun k => k < w.heap.size) (Kd.C_F (Kd.heap_slice _ Kd.heap_scalar) ⟨rfl, by unfold maxLen at hm; omega, fun _ => ⟨a, rfl, fun j p hp => ?_⟩⟩) (fun _ _ => trivial)
      obtain ⟨⟨A, c, hc0, A2, c2, he, hc2, hF2⟩, _⟩ := hfs j p hp
      refine ⟨[.slice A p.length c], rfl, ⟨A, c, rfl, ?_, ?_⟩, fun i u hu => ?_⟩
      · injection he with e1 e2 e3
        omega
      · injection he with e1 e2 e3
        subst e1
        exact Kd.F_now hF2
      · obtain ⟨_, _, hc⟩ := World.cells?_some hc0
        have hi : i < 1 := by
          have := (List.getElem?_eq_some_iff.1 hu).1
          simpa using this
        rw [← Addr.add_add, show kBytes.sz = 1 from rfl, hc i hi]
        exact hu
    · obtain ⟨i, hi, rfl⟩ := List.getElem_of_mem hf
      exact (hfs i _ (List.getElem?_eq_getElem hi)).2
end
/-- The plain wrap, the variables' condition and the world's shape kept. -/
theorem handed_shaped {H : Type} {enc : TypeId × Value → H} {a : Assume} {C : Checked} {os : Os} {f : FuncId} {fn : Func} {s : ChangeSpec} {conds : List PathCond} {apart fresh handsOn again : Bool} {X : World → Array Value → Prop}
    (hX : ∀ (w w' : World) (args : Array Value), w.heap = w'.heap → X w args → X w' args)
    (own : ownKnob C.prog.godebug = none) (started : os.Started) (noInit : C.prog.inits.idxOf? f = none) (hfn : C.prog.funcs[f]? = some fn)
    (witness : ∃ (w : World) (tape : Tape) (i : Input), w.os = os ∧ (w.forCall tape i).Shaped C.prog ∧ i.vars = [] ∧ Input.okWide C.prog (w.forCall tape i) .any w.heap.size f i ∧
      ((s.pre enc C.prog fn conds apart (w.forCall tape i).memory i.args ∧ X (w.forCall tape i).memory i.args) ∧ sizedMet enc C.prog fn (OpenSpec.ofChange s) apart (w.forCall tape i).memory i.args) ∧ a.holds C.prog (lone (Frame.enter C.prog f i.args .normal) [] (w.forCall tape i)))
    (contract : ∀ (W : World) (base : Nat) (args : Array Value) (ds gs : List (DataW H)) (before : List MemPlace),
      (∀ (j : Nat) t v, fn.params[j]? = some t → args[j]? = some v → Value.okWide C.prog W .any base t v) →
      DataW.Whole enc C.prog fn.params.toList s.vars apart W args.toList ds gs before →
      conds.all (PathCond.test C.prog ⟨fn.params.toList, ds, s.plain.varTypes C.prog, gs⟩) = true →
      (DataW.weightsEach C.prog (fn.params.toList ++ s.plain.varTypes C.prog) (ds ++ gs)).all (· ≤ reachBytes) = true → X W args → W.ShapedOpen C.prog →
      a.holds C.prog (lone (Frame.enter C.prog f args .normal) [] W) →
      Calls C.prog f args W fun e W' => ∃ v, e = .returned v ∧ s.post enc C.prog fn apart fresh handsOn again W args v W') :
    ReturnsInHanded a C os f .any (fun w args => (s.pre enc C.prog fn conds apart w args ∧ X w args) ∧ sizedMet enc C.prog fn (OpenSpec.ofChange s) apart w args) (s.post enc C.prog fn apart fresh handsOn again) := by
  refine returnsInHanded_of_calls own started noInit witness ?_
  intro w tape i _ hsh _ hok hpre hholds
  obtain ⟨_, _, _, fn', hfn', _, _, _, _, hval⟩ := hok
  have e : fn' = fn := Option.some.inj (hfn'.symm.trans hfn)
  subst e
  obtain ⟨⟨⟨ds, gs, before, hw, hc⟩, hx⟩, hz⟩ := hpre
  have hw' := DataW.Whole.of_heap (w' := w.forCall tape i) (by rfl) hw
  refine (contract (w.forCall tape i) w.heap.size i.args ds gs before hval hw' hc (hz.weights hw) (hX _ _ _ (by rfl) hx) hsh hholds).mono fun e W' ⟨v, he, hp⟩ => ?_
  subst he
  exact ChangeSpec.post_blind hp
end Go.Proofs.YtjdcejbblcbjpaaDoor
