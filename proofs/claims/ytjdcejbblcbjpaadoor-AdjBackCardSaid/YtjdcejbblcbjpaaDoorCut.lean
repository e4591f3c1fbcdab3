import Derived.Test.YtjdcejbblcbjpaaDoorBase
import Derived.Lib.BytesEntry
/-! bytes.IndexByte, bytes.Index at one byte, bytes.Cut at one byte, bytes.TrimSuffix of one byte. -/
set_option linter.unusedSimpArgs false
set_option linter.unusedVariables false
namespace Go.Proofs.YtjdcejbblcbjpaaDoor
open Go.RowKit Go.Proofs.YtjdcejbblcbjpaaDoorW.PrintWords Go.Proofs.YtjdcejbblcbjpaaDoorW.PrintLast Go.Proofs.YtjdcejbblcbjpaaDoorW.PrintMore

/-- internal/bytealg.IndexByte, whose body is the model's own. -/
theorem run_idx {P : Program} {w : World} {ok : Nat → Prop} {A : Option Addr} {l : List UInt8} {c : Nat} (hF : Kd.F kb w ok A l.length l) (d : UInt8) :
    (Extern.BytealgIndexByte.indexByte #[.slice A l.length c, .int .u8 (d.toNat : Int)]).run P w = .ok (.int .i64 (Lib.indexByte l d)) w := by
  have hs := Lib.run_indexByteString (P := P) ⟨l.toArray⟩ (d.toNat : Int) w
  have hd : ((d.toNat : Int).toNat.toUInt8) = d := by simp
  rw [hd] at hs
  cases A with
  | none =>
    have h0 : l = [] := by
      rcases l with _ | ⟨a, r⟩
      · rfl
      · obtain ⟨_, h, _⟩ := kb_cell hF 0 (by simp)
        cases h
    subst h0
    exact Lib.run_indexByteNil w 0 c _
  | some ad =>
    have hl := Lib.run_loadBytesX (P := P) w (l.map fun c => (c.toNat : Int)) ad .empty (fun j x hj => by
      rw [List.getElem?_map] at hj
      obtain ⟨y, hy, rfl⟩ := Option.map_eq_some_iff.1 hj
      have hlt := (List.getElem?_eq_some_iff.1 hy).1
      rw [kb_cell' hF j hlt]
      simp [List.getD, hy])
    have hb : Lib.bytesOf (l.map fun c => (c.toNat : Int)) = l := by
      unfold Lib.bytesOf
      simp [Function.comp_def]
    rw [List.length_map, hb] at hl
    have he : (⟨ByteArray.empty.data ++ l.toArray⟩ : ByteArray) = ⟨l.toArray⟩ := by
      apply ByteArray.ext
      show (#[] : Array UInt8) ++ l.toArray = l.toArray
      simp
    rw [he] at hl
    have hR : ∀ bv : Value, Extern.BytealgIndexByte.indexByte #[bv, .int .u8 (d.toNat : Int)] = Extern.Bytes.bytesOf bv >>= fun b => Extern.BytealgIndexByte.indexByte #[.string b, .int .u8 (d.toNat : Int)] := fun _ => rfl
    rw [hR]
    simp only [Extern.Bytes.bytesOf, Sem.run_bind, Sem.run_pure, hl, Result.andThen] at hs ⊢
    exact hs

set_option maxRecDepth 100000 in
theorem indexByte_any (v : Value) (l : List UInt8) (d : UInt8) (w : World) (hv : Rd kb w v l) :
    Calls Tryd.prog 40 #[v, .int .u8 (d.toNat : Int)] w fun e w' => e = .returned (.int .i64 (Lib.indexByte l d)) ∧ w' = w := by
  obtain ⟨A, c, rfl, hc, hF⟩ := hv
  go_enter Tryd.func40, Tryd.ntmps40
  go_wp2_with fail
  rw [run_callFunc_extern Tryd.func54 (by kernel_rfl) (by kernel_rfl) (by kernel_rfl) (e := Extern.BytealgIndexByte.indexByte) (by kernel_rfl), run_idx hF d]
  simp only [Result.andThen]
  rw [Oper.upon_value]
  go_wp2
  go_ret
  exact ⟨rfl, rfl⟩

set_option maxRecDepth 100000 in
theorem index1_any (v u : Value) (l : List UInt8) (d : UInt8) (w : World) (hv : Rd kb w v l) (hu : Rd kb w u [d]) :
    Calls Tryd.prog 32 #[v, u] w fun e w' => e = .returned (.int .i64 (Lib.indexByte l d)) ∧ w' = w := by
  have HR := Lib.hid hv
  obtain ⟨A, c, rfl⟩ := Kd.V_slice hv
  obtain ⟨A2, c2, rfl, hc2, hF2⟩ := hu
  obtain ⟨ad, rfl, hcell⟩ := kb_cell hF2 0 (by simp)
  have e0 : ad.add 0 = ad := by cases ad; rfl
  rw [e0] at hcell
  have hcell : w.cell? ad = some (.int .u8 (d.toNat : Int)) := hcell
  clear hF2 hv
  go_enter Tryd.func32, Tryd.ntmps32
  go_wp2_with fail
  refine (indexByte_any _ l d _ HR.out).mono ?_
  rintro e w1 ⟨rfl, rfl⟩
  go_wp2_with fail
  go_ret
  exact ⟨rfl, rfl⟩

namespace Pl
/-- how far the first byte 10 lies, or how long the text is -/
def cutLen (d : UInt8) (l : List UInt8) : Nat := (l.takeWhile (fun c => !(c == d))).length
theorem cutLen_le (d : UInt8) (l : List UInt8) : cutLen d l ≤ l.length := by
  unfold cutLen
  induction l with
  | nil => simp
  | cons a r ih =>
    rw [List.takeWhile_cons]
    split
    · simp; exact ih
    · simp
theorem idx_cases (d : UInt8) (l : List UInt8) : (Lib.indexByte l d = (cutLen d l : Int) ∧ cutLen d l < l.length) ∨ (Lib.indexByte l d = -1 ∧ cutLen d l = l.length) := by
  induction l with
  | nil => exact .inr ⟨rfl, rfl⟩
  | cons a r ih =>
    unfold Lib.indexByte cutLen
    rw [List.takeWhile_cons]
    by_cases h : (a == d) = true
    · rw [if_pos h]
      simp [h]
    · rw [if_neg h]
      have h' : (a == d) = false := by simpa using h
      unfold cutLen at ih
      rcases ih with ⟨h1, h2⟩ | ⟨h1, h2⟩
      · left
        rw [h1]
        simp only [h', Bool.not_false, if_true, List.length_cons]
        rw [if_neg (by simp <;> omega)]
        omega
      · right
        rw [h1]
        simp only [h', Bool.not_false, if_true, List.length_cons]
        simp
        exact h2
end Pl

set_option maxRecDepth 100000 in
set_option maxHeartbeats 1000000 in
/-- bytes.Cut at one byte: what stands ahead of it, whether it is there. -/
theorem cut1_any (v u : Value) (l : List UInt8) (d : UInt8) (w : World) (hv : Rd kb w v l) (hu : Rd kb w u [d]) (hl : l.length ≤ 1099511627776) :
    Calls Tryd.prog 21 #[v, u] w fun e w' => ∃ va vb : Value, e = .returned (.tuple #[va, vb, .bool (decide (Pl.cutLen d l < l.length))]) ∧ Rd kb w' va (l.take (Pl.cutLen d l)) ∧ Below w.heap.size w w' := by
  have HR := Lib.hid hv
  have HU := Lib.hid hu
  obtain ⟨A, c, rfl, hc, hF⟩ := hv
  obtain ⟨A2, c2, rfl, hc2, hF2⟩ := hu
  have hix := index1_any _ _ l d w HR.out HU.out
  have hle := Pl.cutLen_le d l
  obtain ⟨hto, hVt⟩ := byte_to hF hc (Pl.cutLen d l) hle
  rcases Pl.idx_cases d l with ⟨h1, h2⟩ | ⟨h1, h2⟩
  · rw [h1] at hix
    have hd : decide (Pl.cutLen d l < l.length) = true := by simpa using h2
    rw [hd]
    obtain ⟨A3, hfrom, hVf⟩ := byte_from hF hc (Pl.cutLen d l + 1) (by omega)
    obtain ⟨k, hk⟩ : ∃ k, Pl.cutLen d l = k := ⟨_, rfl⟩
    rw [hk] at hix hto hVt hfrom hVf h2 hle ⊢
    have hto' := hto .i64 (k : Int) rfl
    have hfrom' := hfrom .i64 ((k : Int) + 1) (by omega)
    have hk0 : (0 : Int) ≤ (k : Int) := by omega
    have hk1 : (k : Int) ≤ 1099511627776 := by omega
    have hw1 : IntKind.i64.wrap ((k : Int) + 1) = (k : Int) + 1 := IntWalk.i64_in _ (by omega)
    have HV := Lib.hid hVt
    clear hk hto hfrom hF hF2 h1 hd hVt hVf
    go_enter Tryd.func21, Tryd.ntmps21
    go_wp2_with fail
    refine hix.mono ?_
    rintro e w1 ⟨rfl, rfl⟩
    go_wp2_with fail
    go_region_held3 (fun _ => True) (trivial) (fail)
    all_goals
      go_wp2
      refine bodyPost_ret (v := .tuple #[.slice A k c, .slice A3 (l.length - (k + 1)) (c - (k + 1)), .bool true]) (by simp [results, Tryd.results21, go_sem]) rfl ?_
      exact ⟨_, _, rfl, Kd.V_drew (Kd.V_mono HV.out (fun _ _ => trivial)), (Below.refl _ _).drew⟩
  · rw [h1] at hix
    have hd : decide (Pl.cutLen d l < l.length) = false := by simp; omega
    rw [hd, h2, List.take_of_length_le (Nat.le_refl _)]
    clear hto hVt hF hF2 h1 hd
    go_enter Tryd.func21, Tryd.ntmps21
    go_wp2_with fail
    refine hix.mono ?_
    rintro e w1 ⟨rfl, rfl⟩
    go_wp2_with fail
    refine bodyPost_ret (v := .tuple #[.slice A l.length c, .slice none 0 0, .bool false]) (by simp [results, Tryd.results21, go_sem]) rfl ?_
    exact ⟨_, _, rfl, HR.out, Below.refl _ _⟩

namespace Pl
/-- without a byte d at its end -/
def trimB (d : UInt8) (l : List UInt8) : List UInt8 := if l ≠ [] ∧ l.getD (l.length - 1) 0 = d then l.take (l.length - 1) else l
end Pl

theorem equal_any (v u : Value) (l m : List UInt8) (w : World) (hv : Rd kb w v l) (hu : Rd kb w u m) :
    Calls Tryd.prog 41 #[v, u] w fun e w' => e = .returned (.bool (decide (l = m))) ∧ w' = w := by
  obtain ⟨A, c, h1⟩ := Kd.V_slice hv
  obtain ⟨A2, c2, h2⟩ := Kd.V_slice hu
  subst h1 h2
  have s1 := byte_string hv
  have s2 := byte_string hu
  clear hv hu
  have hq : (decide (l = m)) = (l == m) := by
    rw [Bool.eq_iff_iff, decide_eq_true_iff, beq_iff_eq]
  rw [hq]
  go_enter Tryd.func41, Tryd.ntmps41
  go_wp2_with fail
  go_ret
  exact ⟨rfl, rfl⟩

set_option maxRecDepth 100000 in
set_option maxHeartbeats 1000000 in
theorem hasSuffix1_any (v u : Value) (l : List UInt8) (d : UInt8) (w : World) (hv : Rd kb w v l) (hu : Rd kb w u [d]) :
    Calls Tryd.prog 33 #[v, u] w fun e w' => e = .returned (.bool (decide (l ≠ [] ∧ l.getD (l.length - 1) 0 = d))) ∧ w' = w := by
  have HU := Lib.hid hu
  obtain ⟨A, c, rfl, hc, hF⟩ := hv
  obtain ⟨A2, c2, rfl, hc2, hF2⟩ := hu
  have hm := Kd.F_max hF
  rcases Nat.eq_zero_or_pos l.length with h0 | h0
  · have hl : l = [] := List.eq_nil_of_length_eq_zero h0
    subst hl
    clear hF hF2
    go_enter Tryd.func33, Tryd.ntmps33
    go_wp2_with fail
    go_ret
    exact ⟨by simp, rfl⟩
  · obtain ⟨A3, hfrom, hVf⟩ := byte_from hF hc (l.length - 1) (by omega)
    have hfrom' := hfrom .i64 ((l.length : Int) - 1) (by omega)
    have he := equal_any _ _ _ [d] w (Kd.V_mono hVf (fun _ _ => trivial)) HU.out
    have hdr : l.drop (l.length - 1) = [l.getD (l.length - 1) 0] := by
      rw [List.drop_eq_getElem_cons (by omega), List.drop_of_length_le (by omega)]
      have hl1 : l.length - 1 < l.length := by omega
      rw [List.getD_eq_getElem?_getD, List.getElem?_eq_getElem hl1]
      rfl
    rw [hdr] at he
    have hb : (decide ([l.getD (l.length - 1) 0] = [d])) = decide (l ≠ [] ∧ l.getD (l.length - 1) 0 = d) := by
      rw [decide_eq_decide]
      have : l ≠ [] := List.length_pos_iff.1 h0
      simp [this]
    rw [hb] at he
    have hd1 : decide ((1 : Int) ≤ (l.length : Int)) = true := by simp; omega
    have hd2 : (1 : Int) ≤ (l.length : Int) := by omega
    clear hfrom hVf hF hF2 hdr hb
    obtain ⟨q, hq⟩ : ∃ q, decide (l ≠ [] ∧ l.getD (l.length - 1) 0 = d) = q := ⟨_, rfl⟩
    rw [hq] at he ⊢
    clear hq
    go_enter Tryd.func33, Tryd.ntmps33
    go_wp2_with fail
    refine he.mono ?_
    rintro e w1 ⟨rfl, rfl⟩
    go_wp2_with fail
    go_ret
    exact ⟨rfl, rfl⟩

set_option maxRecDepth 100000 in
set_option maxHeartbeats 1000000 in
theorem trim1_any (v u : Value) (l : List UInt8) (d : UInt8) (w : World) (hv : Rd kb w v l) (hu : Rd kb w u [d]) :
    Calls Tryd.prog 23 #[v, u] w fun e w' => ∃ va, e = .returned va ∧ Rd kb w va (Pl.trimB d l) ∧ w' = w := by
  have HR := Lib.hid hv
  have HU := Lib.hid hu
  obtain ⟨A, c, rfl, hc, hF⟩ := hv
  obtain ⟨A2, c2, rfl⟩ := Kd.V_slice hu
  have hm := Kd.F_max hF
  have hh := hasSuffix1_any _ _ l d w HR.out HU.out
  obtain ⟨hto, hVt⟩ := byte_to hF hc (l.length - 1) (by omega)
  unfold Pl.trimB
  by_cases h : l ≠ [] ∧ l.getD (l.length - 1) 0 = d
  · rw [if_pos h]
    rw [decide_eq_true h] at hh
    have h0 : 0 < l.length := List.length_pos_iff.2 h.1
    have hto' := hto .i64 ((l.length : Int) - 1) (by omega)
    have HV := Lib.hid (Kd.V_mono hVt (fun _ _ => trivial) : Rd kb w _ _)
    have hd2 : (1 : Int) ≤ (l.length : Int) := by omega
    clear hto hVt hF hu h
    go_enter Tryd.func23, Tryd.ntmps23
    go_wp2_with fail
    refine hh.mono ?_
    rintro e w1 ⟨rfl, rfl⟩
    go_wp2_with fail
    go_ret
    exact ⟨_, rfl, HV.out, rfl⟩
  · rw [if_neg h]
    rw [decide_eq_false h] at hh
    clear hto hVt hF hu h
    go_enter Tryd.func23, Tryd.ntmps23
    go_wp2_with fail
    refine hh.mono ?_
    rintro e w1 ⟨rfl, rfl⟩
    go_wp2_with fail
    go_ret
    exact ⟨_, rfl, HR.out, rfl⟩
end Go.Proofs.YtjdcejbblcbjpaaDoor
