import Derived.Test.YtfppbkpdpapemaaDoorLawSheetBack
import Derived.Test.YtfppbkpdpapemaaDoorPlainBurst
/-! The law SheetBursts, walked. -/
set_option linter.unusedSimpArgs false
set_option linter.unusedVariables false
namespace Go.Proofs.YtfppbkpdpapemaaDoor
open Go.RowKit Go.Proofs.YtfppbkpdpapemaaDoorW.PrintWords Go.Proofs.YtfppbkpdpapemaaDoorW.PrintLast Go.Proofs.YtfppbkpdpapemaaDoorW.PrintMore

theorem take_burst (s : Pl.Sheet) (p : List UInt8) (first E : Nat) (hl : p.length = (Pl.sealB (Pl.sheetB s)).length) (h0 : 0 < E) (h1 : E < 4294967296) (hf : first ≤ 8 * p.length) (hn : Pl.numL p = Pl.numL (Pl.sealB (Pl.sheetB s)) ^^^ 2 ^ first * E) : Pl.takeS p = none := by
  rw [Pl.takeS, Pl.burst_none _ p first E hl h0 h1 hf hn]
  rfl
theorem not_wanted {b : Bool} {p q : Prop} (h : b = false) (hq : q) : if b = true then p else q := by
  subst h
  exact hq
theorem bit_of (m : Nat) (h : m < 4294967296) : bits .and .u32 (m : Int) 1 = ((m % 2 : Nat) : Int) := by
  have := (bits32 m 1 h (by omega)).1
  rw [show ((1 : Nat) : Int) = 1 from rfl] at this
  rw [this, Nat.and_one_is_mod]
theorem pow_small : ∀ r : Fin 8, IntKind.u8.wrap (2 ^ r.val) = ((2 ^ r.val : Nat) : Int) ∧ 2 ^ r.val < 256 := by decide

set_option maxRecDepth 100000 in
set_option maxHeartbeats 4000000 in
theorem sheetBursts_walk (s : Pl.Sheet) (v : Value) (a t : Int) (w : World) (hv : Rd kFile w v s.files) (hs : ShIn s) (ha0 : 0 ≤ a) (ha1 : a ≤ 65535) (ht0 : 0 ≤ t) (ht1 : t ≤ 4294967295) :
    Calls Tryd.prog 8 #[sheetV s v, .int .u16 a, .int .u32 t] w fun e w' => e = .returned (.bool true) ∧ Below w.heap.size w w' := by
  have HV := Lib.hid hv
  obtain ⟨s', hs'⟩ : ∃ s' : Pl.Sheet, (⟨s.c, s.lab, s.edg, s.files.take 40⟩ : Pl.Sheet) = s' := ⟨_, rfl⟩
  have HIN : ShIn s' := by
    subst hs'
    exact ⟨hs.c, hs.l0, hs.l1, hs.e0, hs.e1, fun f hf => hs.f f (List.mem_of_mem_take hf)⟩
  have HFS : s'.files = s.files.take 40 := by subst hs'; rfl
  have HVV : ∀ u : Value, sheetV s u = sheetV s' u := by subst hs'; intro u; rfl
  have HLL : s'.files.length ≤ 40 := by rw [HFS]; simp; omega
  have HH := Lib.hid (⟨HIN, HFS, HVV, HLL⟩ : ShIn s' ∧ s'.files = s.files.take 40 ∧ (∀ u : Value, sheetV s u = sheetV s' u) ∧ s'.files.length ≤ 40)
  clear hs' HIN HFS HVV HLL
  obtain ⟨A, cc, rfl, hcc, _⟩ := hv
  have HA := Lib.hid (⟨ha0, ha1, ht0, ht1⟩ : 0 ≤ a ∧ a ≤ 65535 ∧ 0 ≤ t ∧ t ≤ 4294967295)
  go_enter Tryd.func8, Tryd.ntmps8
  go_wp2_with fail
  refine calls_at fun W1 hW1 => ?_
  have hb1 : Below w.heap.size w W1 := by rw [← hW1]; exact below_alloc (Below.refl _ _) _
  have hz1 : W1.heap.size = w.heap.size + 1 := by rw [← hW1]; exact World.size_alloc w _
  have K1 : Blk W1 w.heap.size (sheetC s (.slice A s.files.length cc)) 38 := by rw [← hW1]; exact Blk.new _ _ _
  clear hW1
  have HZ1 := Lib.hid hz1
  have HB1 := Lib.hid hb1
  have HK1 := Lib.hid K1
  clear hz1 hb1 K1
  refine (shown20_any W1).mono ?_
  rintro e w2 ⟨rfl, hb2⟩
  have K2 := HK1.out.belowW hb2
  have HB2 := Lib.hid hb2
  obtain ⟨q0, q1, q2, q3, q4, q5, q6, q7, q8, q9, q10⟩ := shAt_of K2
  have q11 : w2.cell? ⟨w.heap.size, 11, none⟩ = some (.slice A s.files.length cc) := K2.cell.1 11
  clear hb2 K2
  go_wp2_with fail
  refine (few20_any s (.slice A s.files.length cc) w2 (Rd.below HV.out (bthen HB1.out HB2.out))).mono ?_
  rintro e w3 ⟨v3, rfl, hr3, hb3⟩
  have HB3 := Lib.hid (bthen HB2.out hb3)
  rw [HH.out.2.2.1 v3]
  rw [← HH.out.2.1] at hr3
  have HR3 := Lib.hid hr3
  clear hb3 hr3 q0 q1 q2 q3 q4 q5 q6 q7 q8 q9 q10 q11
  go_wp2_with fail
  rcases hok : Pl.sheetOk s' with _ | _
  · refine (sput_no s' v3 w3 HH.out.1 HR3.out HH.out.2.2.2 hok).mono ?_
    rintro e w4 ⟨v4, rfl, ho4, hb4⟩
    have HB4 := Lib.hid (bthen HB1.out (bthen HB3.out hb4))
    clear ho4 hb4
    go_wp2_with fail
    go_ret
    exact ⟨rfl, HB4.out⟩
  · refine (sput_ok s' v3 w3 HH.out.1 HR3.out HH.out.2.2.2 hok).mono ?_
    rintro e w4 ⟨v4, rfl, ho4, hb4⟩
    have hsz3 : W1.heap.size ≤ w3.heap.size := HB3.out.size
    have HB4 := Lib.hid (bthen HB3.out hb4)
    obtain ⟨P, hP⟩ : ∃ P, Pl.sealB (Pl.sheetB s') = P := ⟨_, rfl⟩
    rw [hP] at ho4
    have hlen := seal_len HH.out.1 hok HH.out.2.2.2
    rw [hP] at hlen
    obtain ⟨g, c4, hv4, hg0, hg1⟩ := own_form ho4 (by omega)
    subst hv4
    obtain ⟨np, hnp⟩ : ∃ np : Nat, P.length = np := ⟨_, rfl⟩
    have HP := Lib.hid (⟨hP, hnp, Pl.takeS_put s' hok fun f hf => ⟨(HH.out.1.f f hf).2.2.1, (HH.out.1.f f hf).2.2.2⟩⟩ : Pl.sealB (Pl.sheetB s') = P ∧ P.length = np ∧ Pl.takeS (Pl.sealB (Pl.sheetB s')) = some s')
    rw [hnp] at hlen ho4
    have hg : w3.heap.size ≤ g := hg0
    have HO4 := Lib.hid ho4
    have hnp0 : ¬ (np = 0) := by omega
    have hnpz : ((np : Int) == 0) = false := by simpa using hnp0
    have hnp1 : np ≤ 1048576 := hlen.2
    obtain ⟨n8, hn8⟩ : ∃ n8 : Nat, 8 * np = n8 := ⟨_, rfl⟩
    have hw8 : IntKind.i64.wrap (8 * (np : Int)) = (n8 : Int) := by rw [← hn8]; exact (IntWalk.i64_in _ (by omega)).trans (by omega)
    have hn80 : ¬ (n8 = 0) := by omega
    have hwa : IntKind.i64.wrap a = a := IntWalk.i64_in _ (by omega)
    obtain ⟨ft, hft⟩ : ∃ m : Nat, a % (n8 : Int) = (m : Int) := ⟨(a % (n8 : Int)).toNat, by rw [Int.toNat_of_nonneg (Int.emod_nonneg _ (by omega))]⟩
    have hftlt : ft < n8 := by have := Int.emod_lt_of_pos a (show (0 : Int) < n8 by omega); omega
    have htm : a.tmod (n8 : Int) = (ft : Int) := by rw [Int.tmod_eq_emod_of_nonneg ha0]; exact hft
    have HF := Lib.hid (⟨hn8, hftlt, hnp1, hlen.1, hg, hsz3⟩ : 8 * np = n8 ∧ ft < n8 ∧ np ≤ 1048576 ∧ 4 ≤ np ∧ w3.heap.size ≤ g ∧ W1.heap.size ≤ w3.heap.size)
    rw [hnp]
    clear ho4 hb4 hg0 hlen hP hnp hft hn8 hftlt hnp1 hg hsz3 HR3
    go_wp2_with fail
    go_loopw [11, 12, 13, 41] (fun u x y i wr => ∃ (k E : Nat) (L : List UInt8) (bt : Bool), i = .int .i64 (k : Int) ∧ u = .bool bt ∧ Aside0 (k ≤ 32) ∧ Aside0 (E < 2 ^ k) ∧ Aside0 (bt = true ↔ 0 < E) ∧ Aside0 (L.length = np) ∧ Aside0 (Pl.numL L = Pl.numL P ^^^ 2 ^ ft * E) ∧ Aside0 (Own kb 5 wr w3.heap.size (.slice (some ⟨g, 0, none⟩) np c4) L) ∧ Aside0 (Below W1.heap.size W1 wr)) (fun _ _ _ i _ => 32 - (intOf i).toNat)
    case atStart => exact ⟨0, 0, P, false, rfl, rfl, ⟨by omega⟩, ⟨by decide⟩, ⟨by simp⟩, ⟨HP.out.2.1⟩, ⟨by simp⟩, ⟨HO4.out⟩, ⟨HB4.out⟩⟩
    case round =>
      obtain ⟨k, E, L, bt, rfl, rfl, hk, hE, hbt, hL, hN, HO, HB⟩ := hrel
      by_cases hlt : k < 32
      · obtain ⟨K, hK⟩ : ∃ K : Nat, ft + k = K := ⟨_, rfl⟩
        have hft8 : ft < 8388608 := by have := HF.out; omega
        have hwK : IntKind.i64.wrap ((ft : Int) + (k : Int)) = (K : Int) := by rw [← hK]; exact (IntWalk.i64_in _ (by omega)).trans (by omega)
        have s0 : (0 : Int) ≤ (k : Int) := by omega
        have s1 : (k : Int) ≤ 32 := by omega
        have hwk1 : IntKind.i64.wrap ((k : Int) + 1) = (k : Int) + 1 := IntWalk.i64_in _ (by omega)
        obtain ⟨tn, htn⟩ : ∃ tn : Nat, t = (tn : Int) := ⟨t.toNat, by omega⟩
        have hband : bits .and .u32 (t / 2 ^ k) 1 = ((tn / 2 ^ k % 2 : Nat) : Int) := by
          rw [htn, show ((tn : Int) / 2 ^ k) = ((tn / 2 ^ k : Nat) : Int) by simp]
          exact bit_of _ (Nat.lt_of_le_of_lt (Nat.div_le_self _ _) (by omega))
        have HKK := Lib.hid hK
        have hE1 : E < 2 ^ (k + 1) := by rw [Nat.pow_succ]; have := hE.out; omega
        have HE1 := Lib.hid hE1
        clear hK htn hE1
        rcases Nat.mod_two_eq_zero_or_one (tn / 2 ^ k) with h2 | h2
        · rw [h2, show ((0 : Nat) : Int) = 0 from rfl] at hband
          clear h2
          go_wp2_with fail
          go_roundw
          case rel => exact ⟨k + 1, E, L, bt, by go_num, rfl, ⟨by omega⟩, ⟨HE1.out⟩, hbt, hL, hN, HO, HB⟩
          case measure => simp [intOf]; omega
        · rw [h2, show ((1 : Nat) : Int) = 1 from rfl] at hband
          clear h2
          by_cases hK8 : K < n8
          · have HT := Lib.hid (show K / 8 < np ∧ K % 8 < 8 ∧ K < 4294967296 by have := HF.out; omega)
            obtain ⟨q, hq⟩ : ∃ q : Nat, K / 8 = q := ⟨_, rfl⟩
            obtain ⟨r, hr⟩ : ∃ r : Nat, K % 8 = r := ⟨_, rfl⟩
            have hpow := pow_small ⟨r, by have := HT.out; omega⟩
            simp only at hpow
            obtain ⟨m2, hm2⟩ : ∃ m2 : Nat, 2 ^ r = m2 := ⟨_, rfl⟩
            rw [hm2] at hpow
            obtain ⟨hp2, hm3⟩ := hpow
            have hq8 : IntKind.i64.wrap ((K : Int) / 8) = (q : Int) := (IntWalk.i64_in _ (by have := HT.out; omega)).trans (by omega)
            have hr8 : (K : Int).tmod 8 = (r : Int) := by rw [Int.tmod_eq_emod_of_nonneg (by omega)]; omega
            have q0 : (0 : Int) ≤ (q : Int) := by omega
            have q1 : (q : Int) < (np : Int) := by have := HT.out; omega
            have r0 : (0 : Int) ≤ (r : Int) := by omega
            have r1 : (r : Int) ≤ 8 := by have := HT.out; omega
            have hqL : q < L.length := by have := HT.out; have := hL.out; omega
            obtain ⟨c, hc⟩ : ∃ c, L.getD q 0 = c := ⟨_, rfl⟩
            obtain ⟨y1, y2⟩ := own_cell HO.out q hqL
            have hLc : L[q]? = some c := by rw [← hc]; simp [List.getD_eq_getElem?_getD, List.getElem?_eq_getElem hqL]
            have hn1 := Pl.numL_turn L K c (by rw [hq]; exact hLc)
            rw [hq, hr, hm2, hN.out, ← HKK.out, Pl.more_turned hE.out] at hn1
            rw [hc] at y1
            obtain ⟨z, hz⟩ : ∃ z : Nat, (c ^^^ UInt8.ofNat m2).toNat = z := ⟨_, rfl⟩
            have hx : bits .xor .u8 (c.toNat : Int) (m2 : Int) = (z : Int) := by
              rw [← hz, xor_nat .u8 c.toNat m2 c.toNat_lt hm3 (fun n h0 h1 => by rw [IntKind.wrap_u8]; have : n < 256 := h1; omega), UInt8.toNat_xor, UInt8.toNat_ofNat_of_lt' hm3]
            obtain ⟨y0, hy0⟩ : ∃ y0 : Nat, c.toNat = y0 := ⟨_, rfl⟩
            rw [hy0] at y1 hx
            have y1d : wr.drew.cell? ⟨g, q, none⟩ = some (.int .u8 (y0 : Int)) := y1
            have y2d : wr.drew.frozen? ⟨g, q, none⟩ = false := y2
            have HP1 := own_put HO.out q (c ^^^ UInt8.ofNat m2)
            have HP2 := own_put (HO.out.below (Below.refl _ _).drew) q (c ^^^ UInt8.ofNat m2)
            rw [hz] at HP1 HP2
            have HPP := Lib.hid (⟨HP1, HP2⟩ : _ ∧ _)
            have HNN := Lib.hid hn1
            have HL1 := Lib.hid (show (L.set q (c ^^^ UInt8.ofNat m2)).length = np by rw [List.length_set]; exact hL.out)
            have HE2 := Lib.hid (show E + 2 ^ k < 2 ^ (k + 1) by rw [Nat.pow_succ]; have := hE.out; omega)
            have HGG := Lib.hid (show W1.heap.size ≤ g by have := HF.out; omega)
            clear hn1 HP1 HP2 hz hy0 hLc hc hqL hm2 hq hr hm3 HT
            go_upto_region 12 with fail
            refine wp_region_noPanic ?_
            refine wp_region_held_drew (S := fun _ => True) (by kernel_rfl) ?_ (fun hHeld => ?_)
            · first | exact trivial | ((try dsimp only); exact trivial)
            refine wpAnyH_take (i := 0) (oi := ?oir0) (v := ?vr0) ?hir0 (by kernel_rfl) (by kernel_rfl) (by kernel_rfl) (fun _ _ _ h => h) (Or.inl ⟨?wtr0, ?hyr0⟩) (by assumption) ?restr0
            case hir0 => (simp only [List.getElem?_toArray, List.getElem?_cons_succ, List.getElem?_cons_zero]; rfl)
            case wtr0 => rfl
            case hyr0 => (intro w hSw; (try dsimp only at hSw); go_simp) <;> (first | done | with_reducible rfl)
            (try simp only [Act.put, List.setIfInBounds_toArray, List.set_cons_zero, List.set_cons_succ])
            refine wpAnyH_take (i := 1) (oi := ?oir1) (v := ?vr1) ?hir1 (by kernel_rfl) (by kernel_rfl) (by kernel_rfl) (fun _ _ _ h => h) (Or.inl ⟨?wtr1, ?hyr1⟩) (by assumption) ?restr1
            case hir1 => (simp only [List.getElem?_toArray, List.getElem?_cons_succ, List.getElem?_cons_zero]; rfl)
            case wtr1 => rfl
            case hyr1 => (intro w hSw; (try dsimp only at hSw); go_simp) <;> (first | done | with_reducible rfl)
            (try simp only [Act.put, List.setIfInBounds_toArray, List.set_cons_zero, List.set_cons_succ])
            refine wpAnyH_take (i := 2) (oi := ?oir2) (v := ?vr2) ?hir2 (by kernel_rfl) (by kernel_rfl) (by kernel_rfl) (fun _ _ _ h => h) (Or.inl ⟨?wtr2, ?hyr2⟩) (by assumption) ?restr2
            case hir2 => (simp only [List.getElem?_toArray, List.getElem?_cons_succ, List.getElem?_cons_zero]; rfl)
            case wtr2 => rfl
            case hyr2 => (intro w hSw; (try dsimp only at hSw); go_simp) <;> (first | done | with_reducible rfl)
            (try simp only [Act.put, List.setIfInBounds_toArray, List.set_cons_zero, List.set_cons_succ])
            refine wpAnyH_take (i := 3) (oi := ?oir3) (v := ?vr3) ?hir3 (by kernel_rfl) (by kernel_rfl) (by kernel_rfl) (fun _ _ _ h => h) (Or.inl ⟨?wtr3, ?hyr3⟩) (by assumption) ?restr3
            case hir3 => (simp only [List.getElem?_toArray, List.getElem?_cons_succ, List.getElem?_cons_zero]; rfl)
            case wtr3 => rfl
            case hyr3 => (intro w hSw; (try dsimp only at hSw); go_simp) <;> (first | done | with_reducible rfl)
            (try simp only [Act.put, List.setIfInBounds_toArray, List.set_cons_zero, List.set_cons_succ])
            refine wpAnyH_take (i := 5) (oi := ?oir5) (v := ?vr5) ?hir5 (by kernel_rfl) (by kernel_rfl) (by kernel_rfl) (fun _ _ _ h => h) (Or.inl ⟨?wtr5, ?hyr5⟩) (by assumption) ?restr5
            case hir5 => (simp only [List.getElem?_toArray, List.getElem?_cons_succ, List.getElem?_cons_zero]; rfl)
            case wtr5 => rfl
            case hyr5 => (intro w hSw; (try dsimp only at hSw); go_simp) <;> (first | done | with_reducible rfl)
            (try simp only [Act.put, List.setIfInBounds_toArray, List.set_cons_zero, List.set_cons_succ])
            refine wpAnyH_take (i := 6) (oi := ?oir6) (v := ?vr6) ?hir6 (by kernel_rfl) (by kernel_rfl) (by kernel_rfl) (fun _ _ _ h => h) (Or.inl ⟨?wtr6, ?hyr6⟩) (by assumption) ?restr6
            case hir6 => (simp only [List.getElem?_toArray, List.getElem?_cons_succ, List.getElem?_cons_zero]; rfl)
            case wtr6 => rfl
            case hyr6 => (intro w hSw; (try dsimp only at hSw); go_simp) <;> (first | done | with_reducible rfl)
            (try simp only [Act.put, List.setIfInBounds_toArray, List.set_cons_zero, List.set_cons_succ])
            refine wpAnyH_take (i := 7) (oi := ?oir7) (v := ?vr7) ?hir7 (by kernel_rfl) (by kernel_rfl) (by kernel_rfl) (fun _ _ _ h => h) (Or.inl ⟨?wtr7, ?hyr7⟩) (by assumption) ?restr7
            case hir7 => (simp only [List.getElem?_toArray, List.getElem?_cons_succ, List.getElem?_cons_zero]; rfl)
            case wtr7 => rfl
            case hyr7 => (intro w hSw; (try dsimp only at hSw); go_simp) <;> (first | done | with_reducible rfl)
            (try simp only [Act.put, List.setIfInBounds_toArray, List.set_cons_zero, List.set_cons_succ])
            refine wpAnyH_ready (rs := [4]) (by kernel_rfl) (by simp) ?_
            refine AllReadyH.cons rfl (fun K hK => ?_) AllReadyH.nil
            go_simp
            refine hK.out _ _ ?_ (fun hHeld => ?_)
            · first | exact trivial | ((try dsimp only); exact trivial)
            clear hK K
            (try simp only [Act.put, List.setIfInBounds_toArray, List.set_cons_zero, List.set_cons_succ])
            refine wpAnyH_take (i := 8) (oi := ?oir8) (v := ?vr8) ?hir8 (by kernel_rfl) (by kernel_rfl) (by kernel_rfl) (fun _ _ _ h => h) (Or.inl ⟨?wtr8, ?hyr8⟩) (by assumption) ?restr8
            case hir8 => (simp only [List.getElem?_toArray, List.getElem?_cons_succ, List.getElem?_cons_zero]; rfl)
            case wtr8 => rfl
            case hyr8 => (intro w hSw; (try dsimp only at hSw); go_simp) <;> (first | done | with_reducible rfl)
            (try simp only [Act.put, List.setIfInBounds_toArray, List.set_cons_zero, List.set_cons_succ])
            refine wpAnyH_take (i := 9) (oi := ?oir9) (v := ?vr9) ?hir9 (by kernel_rfl) (by kernel_rfl) (by kernel_rfl) (fun _ _ _ h => h) (Or.inl ⟨?wtr9, ?hyr9⟩) (by assumption) ?restr9
            case hir9 => (simp only [List.getElem?_toArray, List.getElem?_cons_succ, List.getElem?_cons_zero]; rfl)
            case wtr9 => rfl
            case hyr9 => (intro w hSw; (try dsimp only at hSw); go_simp) <;> (first | done | with_reducible rfl)
            (try simp only [Act.put, List.setIfInBounds_toArray, List.set_cons_zero, List.set_cons_succ])
            refine wpAnyH_ready (rs := [10]) (by kernel_rfl) (by simp) ?_
            refine AllReadyH.cons rfl (fun K hK => ?_) AllReadyH.nil
            go_simp
            refine hK.out _ _ ?_ (fun hHeld => ?_)
            · first | exact trivial | ((try dsimp only); exact trivial)
            clear hK K
            (try simp only [Act.put, List.setIfInBounds_toArray, List.set_cons_zero, List.set_cons_succ])
            refine wpAnyH_done (by kernel_rfl) ?_ _
            refine NoPanic.normal ?_
            go_wp2_with fail
            go_roundw
            case rel => exact ⟨k + 1, E + 2 ^ k, L.set q (c ^^^ UInt8.ofNat m2), true, by go_num, rfl, ⟨by omega⟩, ⟨HE2.out⟩, ⟨by have := Nat.pow_pos (n := k) (show 0 < 2 by decide); constructor; exact (fun _ => by omega); exact (fun _ => rfl)⟩, ⟨HL1.out⟩, ⟨HNN.out⟩, ⟨by first | exact HPP.out.1 | exact HPP.out.1.below (Below.refl _ _).drew | exact HPP.out.2⟩, ⟨by first | exact bset HB.out HGG.out _ | exact (bset (p := ⟨g, q, none⟩) HB.out HGG.out _).drew | exact bset (p := ⟨g, q, none⟩) HB.out.drew HGG.out _⟩⟩
            case measure => simp [intOf]; omega
          · have hK9 : ¬ ((K : Int) < (n8 : Int)) := by omega
            go_wp2_with fail
            go_roundw
            case rel => exact ⟨k + 1, E, L, bt, by go_num, rfl, ⟨by omega⟩, ⟨HE1.out⟩, hbt, hL, hN, HO, HB⟩
            case measure => simp [intOf]; omega
      · obtain rfl : k = 32 := by have := hk.out; omega
        go_wp2_with fail
        have HRL := Lib.hid HO.out.rd
        have HLL := Lib.hid (show L.length ≤ 1048576 by have := HF.out; have := hL.out; omega)
        have HK7 := Lib.hid (HK1.out.belowW HB.out)
        rcases Nat.eq_zero_or_pos E with hE0 | hE0
        · have hLP : L = P := Pl.numL_inj L P (by rw [hL.out, HP.out.2.1]) (by rw [hN.out, hE0]; simp)
          obtain rfl : bt = false := by rcases bt with _ | _; rfl; have := hbt.out.1 rfl; omega
          have hk : Pl.takeS L = some s' := by rw [hLP, ← HP.out.1]; exact HP.out.2.2
          refine (stake_some _ L s' wr HRL.out HLL.out hk).mono ?_
          rintro e w8 ⟨v8, rfl, hr8, hb8⟩
          obtain ⟨A8, c8, hv8, _, _⟩ := id hr8
          subst hv8
          have K8 := HK7.out.belowW hb8
          have HR8 := Lib.hid hr8
          have HB8 := Lib.hid (bthen HB1.out (bthen HB.out hb8))
          clear hr8 hb8
          go_upto_region 16 with fail
          refine wp_at fun W9 hW9 => ?_
          have hb9 : Below w8.heap.size w8 W9 := by rw [← hW9]; exact below_alloc (Below.refl _ _) _
          have L9 : Blk W9 w8.heap.size (sheetC s' (.slice A8 s'.files.length c8)) 38 := by rw [← hW9]; exact Blk.new _ _ _
          have K9 := K8.belowW hb9
          have HB9 := Lib.hid (bthen HB8.out hb9)
          have HR9 := Lib.hid (Rd.below HR8.out hb9)
          clear hW9 hb9 K8
          have HKEEP := Lib.hid (show ∀ X, Below W9.heap.size W9 X → (X.cell? ⟨w.heap.size, 0, none⟩ = some (.int .u8 (s.c.fmt.toNat : Int)) ∧ X.cell? ⟨w.heap.size, 1, none⟩ = some (.bool s.c.num) ∧ X.cell? ⟨w.heap.size, 2, none⟩ = some (.bool s.c.skip) ∧ X.cell? ⟨w.heap.size, 3, none⟩ = some (.bool s.c.both) ∧ X.cell? ⟨w.heap.size, 4, none⟩ = some (.bool s.c.loops) ∧ X.cell? ⟨w.heap.size, 5, none⟩ = some (.bool s.c.back) ∧ X.cell? ⟨w.heap.size, 6, none⟩ = some (.int .i64 s.c.bud) ∧ X.cell? ⟨w.heap.size, 7, none⟩ = some (.int .i64 s.c.fan) ∧ X.cell? ⟨w.heap.size, 8, none⟩ = some (.int .i64 s.c.sha) ∧ X.cell? ⟨w.heap.size, 9, none⟩ = some (.int .i64 s.lab) ∧ X.cell? ⟨w.heap.size, 10, none⟩ = some (.int .i64 s.edg) ∧ X.cell? ⟨w.heap.size, 11, none⟩ = some (.slice A s.files.length cc) ∧ X.cell? ⟨w8.heap.size, 0, none⟩ = some (.int .u8 (s'.c.fmt.toNat : Int)) ∧ X.cell? ⟨w8.heap.size, 1, none⟩ = some (.bool s'.c.num) ∧ X.cell? ⟨w8.heap.size, 2, none⟩ = some (.bool s'.c.skip) ∧ X.cell? ⟨w8.heap.size, 3, none⟩ = some (.bool s'.c.both) ∧ X.cell? ⟨w8.heap.size, 4, none⟩ = some (.bool s'.c.loops) ∧ X.cell? ⟨w8.heap.size, 5, none⟩ = some (.bool s'.c.back) ∧ X.cell? ⟨w8.heap.size, 6, none⟩ = some (.int .i64 s'.c.bud) ∧ X.cell? ⟨w8.heap.size, 7, none⟩ = some (.int .i64 s'.c.fan) ∧ X.cell? ⟨w8.heap.size, 8, none⟩ = some (.int .i64 s'.c.sha) ∧ X.cell? ⟨w8.heap.size, 9, none⟩ = some (.int .i64 s'.lab) ∧ X.cell? ⟨w8.heap.size, 10, none⟩ = some (.int .i64 s'.edg) ∧ X.cell? ⟨w8.heap.size, 11, none⟩ = some (.slice A8 s'.files.length c8)) by
            intro X hX
            obtain ⟨q0, q1, q2, q3, q4, q5, q6, q7, q8, q9, q10⟩ := shAt_of (K9.belowW hX)
            obtain ⟨p0, p1, p2, p3, p4, p5, p6, p7, p8, p9, p10⟩ := shAt_of (L9.belowW hX)
            exact ⟨q0, q1, q2, q3, q4, q5, q6, q7, q8, q9, q10, (K9.belowW hX).cell.1 11, p0, p1, p2, p3, p4, p5, p6, p7, p8, p9, p10, (L9.belowW hX).cell.1 11⟩)
          have hb0 : Below W9.heap.size W9 W9 := Below.refl _ _
          refine wp_region_noPanic ?_
          refine wp_region_held_drew (S := fun X => X.cell? ⟨w.heap.size, 0, none⟩ = some (.int .u8 (s.c.fmt.toNat : Int)) ∧ X.cell? ⟨w.heap.size, 1, none⟩ = some (.bool s.c.num) ∧ X.cell? ⟨w.heap.size, 2, none⟩ = some (.bool s.c.skip) ∧ X.cell? ⟨w.heap.size, 3, none⟩ = some (.bool s.c.both) ∧ X.cell? ⟨w.heap.size, 4, none⟩ = some (.bool s.c.loops) ∧ X.cell? ⟨w.heap.size, 5, none⟩ = some (.bool s.c.back) ∧ X.cell? ⟨w.heap.size, 6, none⟩ = some (.int .i64 s.c.bud) ∧ X.cell? ⟨w.heap.size, 7, none⟩ = some (.int .i64 s.c.fan) ∧ X.cell? ⟨w.heap.size, 8, none⟩ = some (.int .i64 s.c.sha) ∧ X.cell? ⟨w.heap.size, 9, none⟩ = some (.int .i64 s.lab) ∧ X.cell? ⟨w.heap.size, 10, none⟩ = some (.int .i64 s.edg) ∧ X.cell? ⟨w.heap.size, 11, none⟩ = some (.slice A s.files.length cc) ∧ X.cell? ⟨w8.heap.size, 0, none⟩ = some (.int .u8 (s'.c.fmt.toNat : Int)) ∧ X.cell? ⟨w8.heap.size, 1, none⟩ = some (.bool s'.c.num) ∧ X.cell? ⟨w8.heap.size, 2, none⟩ = some (.bool s'.c.skip) ∧ X.cell? ⟨w8.heap.size, 3, none⟩ = some (.bool s'.c.both) ∧ X.cell? ⟨w8.heap.size, 4, none⟩ = some (.bool s'.c.loops) ∧ X.cell? ⟨w8.heap.size, 5, none⟩ = some (.bool s'.c.back) ∧ X.cell? ⟨w8.heap.size, 6, none⟩ = some (.int .i64 s'.c.bud) ∧ X.cell? ⟨w8.heap.size, 7, none⟩ = some (.int .i64 s'.c.fan) ∧ X.cell? ⟨w8.heap.size, 8, none⟩ = some (.int .i64 s'.c.sha) ∧ X.cell? ⟨w8.heap.size, 9, none⟩ = some (.int .i64 s'.lab) ∧ X.cell? ⟨w8.heap.size, 10, none⟩ = some (.int .i64 s'.edg) ∧ X.cell? ⟨w8.heap.size, 11, none⟩ = some (.slice A8 s'.files.length c8)) (by kernel_rfl) ?_ (fun hHeld => ?_)
          · first | exact trivial | ((try dsimp only); exact HKEEP.out _ hb0.drew)
          refine wpAnyH_take (i := 0) (oi := ?ois0) (v := ?vs0) ?his0 (by kernel_rfl) (by kernel_rfl) (by kernel_rfl) (fun _ _ _ h => h) (Or.inl ⟨?wts0, ?hys0⟩) (by assumption) ?rests0
          case his0 => (simp only [List.getElem?_toArray, List.getElem?_cons_succ, List.getElem?_cons_zero]; rfl)
          case wts0 => rfl
          case hys0 => (intro w hSw; (try dsimp only at hSw); go_simp) <;> (first | done | with_reducible rfl)
          (try simp only [Act.put, List.setIfInBounds_toArray, List.set_cons_zero, List.set_cons_succ])
          refine wpAnyH_take (i := 1) (oi := ?ois1) (v := ?vs1) ?his1 (by kernel_rfl) (by kernel_rfl) (by kernel_rfl) (fun _ _ _ h => h) (Or.inl ⟨?wts1, ?hys1⟩) (by assumption) ?rests1
          case his1 => (simp only [List.getElem?_toArray, List.getElem?_cons_succ, List.getElem?_cons_zero]; rfl)
          case wts1 => rfl
          case hys1 => (intro w hSw; (try dsimp only at hSw); go_simp) <;> (first | done | with_reducible rfl)
          (try simp only [Act.put, List.setIfInBounds_toArray, List.set_cons_zero, List.set_cons_succ])
          refine wpAnyH_take (i := 2) (oi := ?ois2) (v := ?vs2) ?his2 (by kernel_rfl) (by kernel_rfl) (by kernel_rfl) (fun _ _ _ h => h) (Or.inl ⟨?wts2, ?hys2⟩) (by assumption) ?rests2
          case his2 => (simp only [List.getElem?_toArray, List.getElem?_cons_succ, List.getElem?_cons_zero]; rfl)
          case wts2 => rfl
          case hys2 => (intro w hSw; (try dsimp only at hSw); go_simp) <;> (first | done | with_reducible rfl)
          (try simp only [Act.put, List.setIfInBounds_toArray, List.set_cons_zero, List.set_cons_succ])
          refine wpAnyH_take (i := 3) (oi := ?ois3) (v := ?vs3) ?his3 (by kernel_rfl) (by kernel_rfl) (by kernel_rfl) (fun _ _ _ h => h) (Or.inl ⟨?wts3, ?hys3⟩) (by assumption) ?rests3
          case his3 => (simp only [List.getElem?_toArray, List.getElem?_cons_succ, List.getElem?_cons_zero]; rfl)
          case wts3 => rfl
          case hys3 => (intro w hSw; (try dsimp only at hSw); go_simp) <;> (first | done | with_reducible rfl)
          (try simp only [Act.put, List.setIfInBounds_toArray, List.set_cons_zero, List.set_cons_succ])
          refine wpAnyH_take (i := 4) (oi := ?ois4) (v := undef) ?his4 (by kernel_rfl) (by kernel_rfl) (by kernel_rfl) (fun _ _ _ h => h) (Or.inr ⟨?wts4, rfl⟩) (by assumption) ?rests4
          case his4 => (simp only [List.getElem?_toArray, List.getElem?_cons_succ, List.getElem?_cons_zero]; rfl)
          case wts4 => rfl
          (try simp only [Act.put, List.setIfInBounds_toArray, List.set_cons_zero, List.set_cons_succ])
          refine wpAnyH_take (i := 5) (oi := ?ois5) (v := undef) ?his5 (by kernel_rfl) (by kernel_rfl) (by kernel_rfl) (fun _ _ _ h => h) (Or.inr ⟨?wts5, rfl⟩) (by assumption) ?rests5
          case his5 => (simp only [List.getElem?_toArray, List.getElem?_cons_succ, List.getElem?_cons_zero]; rfl)
          case wts5 => rfl
          (try simp only [Act.put, List.setIfInBounds_toArray, List.set_cons_zero, List.set_cons_succ])
          refine wpAnyH_take (i := 6) (oi := ?ois6) (v := ?vs6) ?his6 (by kernel_rfl) (by kernel_rfl) (by kernel_rfl) (fun _ _ _ h => h) (Or.inl ⟨?wts6, ?hys6⟩) (by assumption) ?rests6
          case his6 => (simp only [List.getElem?_toArray, List.getElem?_cons_succ, List.getElem?_cons_zero]; rfl)
          case wts6 => rfl
          case hys6 => (intro w hSw; (try dsimp only at hSw); go_simp) <;> (first | done | with_reducible rfl)
          (try simp only [Act.put, List.setIfInBounds_toArray, List.set_cons_zero, List.set_cons_succ])
          refine wpAnyH_take (i := 7) (oi := ?ois7) (v := ?vs7) ?his7 (by kernel_rfl) (by kernel_rfl) (by kernel_rfl) (fun _ _ _ h => h) (Or.inl ⟨?wts7, ?hys7⟩) (by assumption) ?rests7
          case his7 => (simp only [List.getElem?_toArray, List.getElem?_cons_succ, List.getElem?_cons_zero]; rfl)
          case wts7 => rfl
          case hys7 => (intro w hSw; (try dsimp only at hSw); go_simp) <;> (first | done | with_reducible rfl)
          (try simp only [Act.put, List.setIfInBounds_toArray, List.set_cons_zero, List.set_cons_succ])
          refine wpAnyH_take (i := 8) (oi := ?ois8) (v := undef) ?his8 (by kernel_rfl) (by kernel_rfl) (by kernel_rfl) (fun _ _ _ h => h) (Or.inr ⟨?wts8, rfl⟩) (by assumption) ?rests8
          case his8 => (simp only [List.getElem?_toArray, List.getElem?_cons_succ, List.getElem?_cons_zero]; rfl)
          case wts8 => rfl
          (try simp only [Act.put, List.setIfInBounds_toArray, List.set_cons_zero, List.set_cons_succ])
          refine wpAnyH_take (i := 9) (oi := ?ois9) (v := undef) ?his9 (by kernel_rfl) (by kernel_rfl) (by kernel_rfl) (fun _ _ _ h => h) (Or.inr ⟨?wts9, rfl⟩) (by assumption) ?rests9
          case his9 => (simp only [List.getElem?_toArray, List.getElem?_cons_succ, List.getElem?_cons_zero]; rfl)
          case wts9 => rfl
          (try simp only [Act.put, List.setIfInBounds_toArray, List.set_cons_zero, List.set_cons_succ])
          refine wpAnyH_take (i := 10) (oi := ?ois10) (v := undef) ?his10 (by kernel_rfl) (by kernel_rfl) (by kernel_rfl) (fun _ _ _ h => h) (Or.inr ⟨?wts10, rfl⟩) (by assumption) ?rests10
          case his10 => (simp only [List.getElem?_toArray, List.getElem?_cons_succ, List.getElem?_cons_zero]; rfl)
          case wts10 => rfl
          (try simp only [Act.put, List.setIfInBounds_toArray, List.set_cons_zero, List.set_cons_succ])
          refine wpAnyH_take (i := 11) (oi := ?ois11) (v := undef) ?his11 (by kernel_rfl) (by kernel_rfl) (by kernel_rfl) (fun _ _ _ h => h) (Or.inr ⟨?wts11, rfl⟩) (by assumption) ?rests11
          case his11 => (simp only [List.getElem?_toArray, List.getElem?_cons_succ, List.getElem?_cons_zero]; rfl)
          case wts11 => rfl
          (try simp only [Act.put, List.setIfInBounds_toArray, List.set_cons_zero, List.set_cons_succ])
          refine wpAnyH_take (i := 12) (oi := ?ois12) (v := ?vs12) ?his12 (by kernel_rfl) (by kernel_rfl) (by kernel_rfl) (fun _ _ _ h => h) (Or.inl ⟨?wts12, ?hys12⟩) (by assumption) ?rests12
          case his12 => (simp only [List.getElem?_toArray, List.getElem?_cons_succ, List.getElem?_cons_zero]; rfl)
          case wts12 => rfl
          case hys12 => (intro w hSw; (try dsimp only at hSw); go_simp) <;> (first | done | with_reducible rfl)
          (try simp only [Act.put, List.setIfInBounds_toArray, List.set_cons_zero, List.set_cons_succ])
          refine wpAnyH_take (i := 13) (oi := ?ois13) (v := ?vs13) ?his13 (by kernel_rfl) (by kernel_rfl) (by kernel_rfl) (fun _ _ _ h => h) (Or.inl ⟨?wts13, ?hys13⟩) (by assumption) ?rests13
          case his13 => (simp only [List.getElem?_toArray, List.getElem?_cons_succ, List.getElem?_cons_zero]; rfl)
          case wts13 => rfl
          case hys13 => (intro w hSw; (try dsimp only at hSw); go_simp) <;> (first | done | with_reducible rfl)
          (try simp only [Act.put, List.setIfInBounds_toArray, List.set_cons_zero, List.set_cons_succ])
          refine wpAnyH_take (i := 14) (oi := ?ois14) (v := ?vs14) ?his14 (by kernel_rfl) (by kernel_rfl) (by kernel_rfl) (fun _ _ _ h => h) (Or.inl ⟨?wts14, ?hys14⟩) (by assumption) ?rests14
          case his14 => (simp only [List.getElem?_toArray, List.getElem?_cons_succ, List.getElem?_cons_zero]; rfl)
          case wts14 => rfl
          case hys14 => (intro w hSw; (try dsimp only at hSw); go_simp) <;> (first | done | with_reducible rfl)
          (try simp only [Act.put, List.setIfInBounds_toArray, List.set_cons_zero, List.set_cons_succ])
          refine wpAnyH_take (i := 15) (oi := ?ois15) (v := ?vs15) ?his15 (by kernel_rfl) (by kernel_rfl) (by kernel_rfl) (fun _ _ _ h => h) (Or.inl ⟨?wts15, ?hys15⟩) (by assumption) ?rests15
          case his15 => (simp only [List.getElem?_toArray, List.getElem?_cons_succ, List.getElem?_cons_zero]; rfl)
          case wts15 => rfl
          case hys15 => (intro w hSw; (try dsimp only at hSw); go_simp) <;> (first | done | with_reducible rfl)
          (try simp only [Act.put, List.setIfInBounds_toArray, List.set_cons_zero, List.set_cons_succ])
          refine wpAnyH_take (i := 16) (oi := ?ois16) (v := ?vs16) ?his16 (by kernel_rfl) (by kernel_rfl) (by kernel_rfl) (fun _ _ _ h => h) (Or.inl ⟨?wts16, ?hys16⟩) (by assumption) ?rests16
          case his16 => (simp only [List.getElem?_toArray, List.getElem?_cons_succ, List.getElem?_cons_zero]; rfl)
          case wts16 => rfl
          case hys16 => (intro w hSw; (try dsimp only at hSw); go_simp) <;> (first | done | with_reducible rfl)
          (try simp only [Act.put, List.setIfInBounds_toArray, List.set_cons_zero, List.set_cons_succ])
          refine wpAnyH_take (i := 17) (oi := ?ois17) (v := ?vs17) ?his17 (by kernel_rfl) (by kernel_rfl) (by kernel_rfl) (fun _ _ _ h => h) (Or.inl ⟨?wts17, ?hys17⟩) (by assumption) ?rests17
          case his17 => (simp only [List.getElem?_toArray, List.getElem?_cons_succ, List.getElem?_cons_zero]; rfl)
          case wts17 => rfl
          case hys17 => (intro w hSw; (try dsimp only at hSw); go_simp) <;> (first | done | with_reducible rfl)
          (try simp only [Act.put, List.setIfInBounds_toArray, List.set_cons_zero, List.set_cons_succ])
          refine wpAnyH_take (i := 18) (oi := ?ois18) (v := ?vs18) ?his18 (by kernel_rfl) (by kernel_rfl) (by kernel_rfl) (fun _ _ _ h => h) (Or.inl ⟨?wts18, ?hys18⟩) (by assumption) ?rests18
          case his18 => (simp only [List.getElem?_toArray, List.getElem?_cons_succ, List.getElem?_cons_zero]; rfl)
          case wts18 => rfl
          case hys18 => (intro w hSw; (try dsimp only at hSw); go_simp) <;> (first | done | with_reducible rfl)
          (try simp only [Act.put, List.setIfInBounds_toArray, List.set_cons_zero, List.set_cons_succ])
          refine wpAnyH_take (i := 19) (oi := ?ois19) (v := ?vs19) ?his19 (by kernel_rfl) (by kernel_rfl) (by kernel_rfl) (fun _ _ _ h => h) (Or.inl ⟨?wts19, ?hys19⟩) (by assumption) ?rests19
          case his19 => (simp only [List.getElem?_toArray, List.getElem?_cons_succ, List.getElem?_cons_zero]; rfl)
          case wts19 => rfl
          case hys19 => (intro w hSw; (try dsimp only at hSw); go_simp) <;> (first | done | with_reducible rfl)
          (try simp only [Act.put, List.setIfInBounds_toArray, List.set_cons_zero, List.set_cons_succ])
          refine wpAnyH_take (i := 20) (oi := ?ois20) (v := ?vs20) ?his20 (by kernel_rfl) (by kernel_rfl) (by kernel_rfl) (fun _ _ _ h => h) (Or.inl ⟨?wts20, ?hys20⟩) (by assumption) ?rests20
          case his20 => (simp only [List.getElem?_toArray, List.getElem?_cons_succ, List.getElem?_cons_zero]; rfl)
          case wts20 => rfl
          case hys20 => (intro w hSw; (try dsimp only at hSw); go_simp) <;> (first | done | with_reducible rfl)
          (try simp only [Act.put, List.setIfInBounds_toArray, List.set_cons_zero, List.set_cons_succ])
          refine wpAnyH_take (i := 21) (oi := ?ois21) (v := ?vs21) ?his21 (by kernel_rfl) (by kernel_rfl) (by kernel_rfl) (fun _ _ _ h => h) (Or.inl ⟨?wts21, ?hys21⟩) (by assumption) ?rests21
          case his21 => (simp only [List.getElem?_toArray, List.getElem?_cons_succ, List.getElem?_cons_zero]; rfl)
          case wts21 => rfl
          case hys21 => (intro w hSw; (try dsimp only at hSw); go_simp) <;> (first | done | with_reducible rfl)
          (try simp only [Act.put, List.setIfInBounds_toArray, List.set_cons_zero, List.set_cons_succ])
          refine wpAnyH_take (i := 22) (oi := ?ois22) (v := ?vs22) ?his22 (by kernel_rfl) (by kernel_rfl) (by kernel_rfl) (fun _ _ _ h => h) (Or.inl ⟨?wts22, ?hys22⟩) (by assumption) ?rests22
          case his22 => (simp only [List.getElem?_toArray, List.getElem?_cons_succ, List.getElem?_cons_zero]; rfl)
          case wts22 => rfl
          case hys22 => (intro w hSw; (try dsimp only at hSw); go_simp) <;> (first | done | with_reducible rfl)
          (try simp only [Act.put, List.setIfInBounds_toArray, List.set_cons_zero, List.set_cons_succ])
          refine wpAnyH_ready (rs := [23]) (by kernel_rfl) (by simp) ?_
          refine AllReadyH.cons rfl (fun K hK => ?_) AllReadyH.nil
          go_simp
          (go_at_call 13; refine (few20_any s (.slice A s.files.length cc) _ (Rd.below HV.out (bthen HB9.out hb0.drew))).mono ?_; rintro e w10 ⟨v10, rfl, hr10, hb10⟩; rw [HH.out.2.2.1 v10]; rw [← HH.out.2.1] at hr10; have hB1 := bthen hb0.drew hb10)
          go_wp2_with fail
          refine hK.out _ _ ?_ (fun hHeld => ?_)
          · first | exact trivial | ((try dsimp only); exact HKEEP.out _ hB1)
          clear hK K
          (try simp only [Act.put, List.setIfInBounds_toArray, List.set_cons_zero, List.set_cons_succ])
          refine wpAnyH_ready (rs := [24]) (by kernel_rfl) (by simp) ?_
          refine AllReadyH.cons rfl (fun K hK => ?_) AllReadyH.nil
          go_simp
          (go_at_call 20; refine (rsame20_any s' _ _ _ (Rd.below (Rd.below HR9.out hb0.drew) hb10) hr10).mono ?_; rintro e w11 ⟨rfl, hb11⟩; have hB2 := bthen hB1 hb11)
          go_wp2_with fail
          refine hK.out _ _ ?_ (fun hHeld => ?_)
          · first | exact trivial | ((try dsimp only); exact HKEEP.out _ hB2)
          clear hK K
          (try simp only [Act.put, List.setIfInBounds_toArray, List.set_cons_zero, List.set_cons_succ])
          refine wpAnyH_take (i := 25) (oi := ?ois25) (v := ?vs25) ?his25 (by kernel_rfl) (by kernel_rfl) (by kernel_rfl) (fun _ _ _ h => h) (Or.inl ⟨?wts25, ?hys25⟩) (by assumption) ?rests25
          case his25 => (simp only [List.getElem?_toArray, List.getElem?_cons_succ, List.getElem?_cons_zero]; rfl)
          case wts25 => rfl
          case hys25 => (intro w hSw; (try dsimp only at hSw); go_simp) <;> (first | done | with_reducible rfl)
          (try simp only [Act.put, List.setIfInBounds_toArray, List.set_cons_zero, List.set_cons_succ])
          refine wpAnyH_take (i := 26) (oi := ?ois26) (v := ?vs26) ?his26 (by kernel_rfl) (by kernel_rfl) (by kernel_rfl) (fun _ _ _ h => h) (Or.inl ⟨?wts26, ?hys26⟩) (by assumption) ?rests26
          case his26 => (simp only [List.getElem?_toArray, List.getElem?_cons_succ, List.getElem?_cons_zero]; rfl)
          case wts26 => rfl
          case hys26 => (intro w hSw; (try dsimp only at hSw); go_simp) <;> (first | done | with_reducible rfl)
          (try simp only [Act.put, List.setIfInBounds_toArray, List.set_cons_zero, List.set_cons_succ])
          refine wpAnyH_take (i := 27) (oi := ?ois27) (v := ?vs27) ?his27 (by kernel_rfl) (by kernel_rfl) (by kernel_rfl) (fun _ _ _ h => h) (Or.inl ⟨?wts27, ?hys27⟩) (by assumption) ?rests27
          case his27 => (simp only [List.getElem?_toArray, List.getElem?_cons_succ, List.getElem?_cons_zero]; rfl)
          case wts27 => rfl
          case hys27 => (intro w hSw; (try dsimp only at hSw); go_simp) <;> (first | done | with_reducible rfl)
          (try simp only [Act.put, List.setIfInBounds_toArray, List.set_cons_zero, List.set_cons_succ])
          refine wpAnyH_take (i := 28) (oi := ?ois28) (v := ?vs28) ?his28 (by kernel_rfl) (by kernel_rfl) (by kernel_rfl) (fun _ _ _ h => h) (Or.inl ⟨?wts28, ?hys28⟩) (by assumption) ?rests28
          case his28 => (simp only [List.getElem?_toArray, List.getElem?_cons_succ, List.getElem?_cons_zero]; rfl)
          case wts28 => rfl
          case hys28 => (intro w hSw; (try dsimp only at hSw); go_simp) <;> (first | done | with_reducible rfl)
          (try simp only [Act.put, List.setIfInBounds_toArray, List.set_cons_zero, List.set_cons_succ])
          refine wpAnyH_done (by kernel_rfl) ?_ _
          refine NoPanic.normal ?_
          go_wp2_with fail
          go_ret
          exact ⟨rfl, bthen HB9.out (by first | exact hB2 | exact hB2.drew)⟩
        · obtain rfl : bt = true := hbt.out.2 hE0
          have hk : Pl.takeS L = none := take_burst s' L ft E (by rw [hL.out, HP.out.1, HP.out.2.1]) hE0 (by have := hE.out; omega) (by have := HF.out; have := hL.out; omega) (by rw [HP.out.1]; exact hN.out)
          refine (stake_none _ L wr HRL.out HLL.out hk).mono ?_
          rintro e w8 ⟨v8, rfl, hr8, hb8⟩
          obtain ⟨A8, c8, hv8, _, _⟩ := id hr8
          subst hv8
          have HB8 := Lib.hid (bthen HB1.out (bthen HB.out hb8))
          clear hr8 hb8
          obtain ⟨s3, hs3⟩ : ∃ s3, Pl.zeroS = s3 := ⟨_, rfl⟩
          rw [hs3]
          clear hs3
          go_upto_region 16 with fail
          refine wp_at fun W9 hW9 => ?_
          have hb9 : Below w8.heap.size w8 W9 := by rw [← hW9]; exact below_alloc (Below.refl _ _) _
          have L9 : Blk W9 w8.heap.size (sheetC s3 (.slice A8 0 c8)) 38 := by rw [← hW9]; exact Blk.new _ _ _
          have HB9 := Lib.hid (bthen HB8.out hb9)
          clear hW9 hb9
          have HKEEP := Lib.hid (show ∀ X, Below W9.heap.size W9 X → X.cell? ⟨w8.heap.size, 11, none⟩ = some (.slice A8 0 c8) from fun X hX => (L9.belowW hX).cell.1 11)
          have hb0 : Below W9.heap.size W9 W9 := Below.refl _ _
          have q11 : W9.cell? ⟨w8.heap.size, 11, none⟩ = some (.slice A8 0 c8) := L9.cell.1 11
          refine wp_region_noPanic ?_
          refine wp_region_held_drew (S := fun X => X.cell? ⟨w8.heap.size, 11, none⟩ = some (.slice A8 0 c8)) (by kernel_rfl) ?_ (fun hHeld => ?_)
          · first | exact trivial | ((try dsimp only); exact HKEEP.out _ hb0.drew)
          refine wpAnyH_take (i := 0) (oi := ?oit0) (v := ?vt0) ?hit0 (by kernel_rfl) (by kernel_rfl) (by kernel_rfl) (fun _ _ _ h => h) (Or.inl ⟨?wtt0, ?hyt0⟩) (by assumption) ?restt0
          case hit0 => (simp only [List.getElem?_toArray, List.getElem?_cons_succ, List.getElem?_cons_zero]; rfl)
          case wtt0 => rfl
          case hyt0 => (intro w hSw; (try dsimp only at hSw); go_simp) <;> (first | done | with_reducible rfl)
          (try simp only [Act.put, List.setIfInBounds_toArray, List.set_cons_zero, List.set_cons_succ])
          refine wpAnyH_take (i := 1) (oi := ?oit1) (v := ?vt1) ?hit1 (by kernel_rfl) (by kernel_rfl) (by kernel_rfl) (fun _ _ _ h => h) (Or.inl ⟨?wtt1, ?hyt1⟩) (by assumption) ?restt1
          case hit1 => (simp only [List.getElem?_toArray, List.getElem?_cons_succ, List.getElem?_cons_zero]; rfl)
          case wtt1 => rfl
          case hyt1 => (intro w hSw; (try dsimp only at hSw); go_simp) <;> (first | done | with_reducible rfl)
          (try simp only [Act.put, List.setIfInBounds_toArray, List.set_cons_zero, List.set_cons_succ])
          refine wpAnyH_take (i := 2) (oi := ?oit2) (v := ?vt2) ?hit2 (by kernel_rfl) (by kernel_rfl) (by kernel_rfl) (fun _ _ _ h => h) (Or.inl ⟨?wtt2, ?hyt2⟩) (by assumption) ?restt2
          case hit2 => (simp only [List.getElem?_toArray, List.getElem?_cons_succ, List.getElem?_cons_zero]; rfl)
          case wtt2 => rfl
          case hyt2 => (intro w hSw; (try dsimp only at hSw); go_simp) <;> (first | done | with_reducible rfl)
          (try simp only [Act.put, List.setIfInBounds_toArray, List.set_cons_zero, List.set_cons_succ])
          refine wpAnyH_take (i := 3) (oi := ?oit3) (v := ?vt3) ?hit3 (by kernel_rfl) (by kernel_rfl) (by kernel_rfl) (fun _ _ _ h => h) (Or.inl ⟨?wtt3, ?hyt3⟩) (by assumption) ?restt3
          case hit3 => (simp only [List.getElem?_toArray, List.getElem?_cons_succ, List.getElem?_cons_zero]; rfl)
          case wtt3 => rfl
          case hyt3 => (intro w hSw; (try dsimp only at hSw); go_simp) <;> (first | done | with_reducible rfl)
          (try simp only [Act.put, List.setIfInBounds_toArray, List.set_cons_zero, List.set_cons_succ])
          refine wpAnyH_take (i := 4) (oi := ?oit4) (v := ?vt4) ?hit4 (by kernel_rfl) (by kernel_rfl) (by kernel_rfl) (fun _ _ _ h => h) (Or.inl ⟨?wtt4, ?hyt4⟩) (by assumption) ?restt4
          case hit4 => (simp only [List.getElem?_toArray, List.getElem?_cons_succ, List.getElem?_cons_zero]; rfl)
          case wtt4 => rfl
          case hyt4 => (intro w hSw; (try dsimp only at hSw); go_simp) <;> (first | done | with_reducible rfl)
          (try simp only [Act.put, List.setIfInBounds_toArray, List.set_cons_zero, List.set_cons_succ])
          refine wpAnyH_take (i := 5) (oi := ?oit5) (v := ?vt5) ?hit5 (by kernel_rfl) (by kernel_rfl) (by kernel_rfl) (fun _ _ _ h => h) (Or.inl ⟨?wtt5, ?hyt5⟩) (by assumption) ?restt5
          case hit5 => (simp only [List.getElem?_toArray, List.getElem?_cons_succ, List.getElem?_cons_zero]; rfl)
          case wtt5 => rfl
          case hyt5 => (intro w hSw; (try dsimp only at hSw); go_simp) <;> (first | done | with_reducible rfl)
          (try simp only [Act.put, List.setIfInBounds_toArray, List.set_cons_zero, List.set_cons_succ])
          refine wpAnyH_take (i := 6) (oi := ?oit6) (v := ?vt6) ?hit6 (by kernel_rfl) (by kernel_rfl) (by kernel_rfl) (fun _ _ _ h => h) (Or.inl ⟨?wtt6, ?hyt6⟩) (by assumption) ?restt6
          case hit6 => (simp only [List.getElem?_toArray, List.getElem?_cons_succ, List.getElem?_cons_zero]; rfl)
          case wtt6 => rfl
          case hyt6 => (intro w hSw; (try dsimp only at hSw); go_simp) <;> (first | done | with_reducible rfl)
          (try simp only [Act.put, List.setIfInBounds_toArray, List.set_cons_zero, List.set_cons_succ])
          refine wpAnyH_take (i := 7) (oi := ?oit7) (v := ?vt7) ?hit7 (by kernel_rfl) (by kernel_rfl) (by kernel_rfl) (fun _ _ _ h => h) (Or.inl ⟨?wtt7, ?hyt7⟩) (by assumption) ?restt7
          case hit7 => (simp only [List.getElem?_toArray, List.getElem?_cons_succ, List.getElem?_cons_zero]; rfl)
          case wtt7 => rfl
          case hyt7 => (intro w hSw; (try dsimp only at hSw); go_simp) <;> (first | done | with_reducible rfl)
          (try simp only [Act.put, List.setIfInBounds_toArray, List.set_cons_zero, List.set_cons_succ])
          refine wpAnyH_take (i := 8) (oi := ?oit8) (v := ?vt8) ?hit8 (by kernel_rfl) (by kernel_rfl) (by kernel_rfl) (fun _ _ _ h => h) (Or.inl ⟨?wtt8, ?hyt8⟩) (by assumption) ?restt8
          case hit8 => (simp only [List.getElem?_toArray, List.getElem?_cons_succ, List.getElem?_cons_zero]; rfl)
          case wtt8 => rfl
          case hyt8 => (intro w hSw; (try dsimp only at hSw); go_simp) <;> (first | done | with_reducible rfl)
          (try simp only [Act.put, List.setIfInBounds_toArray, List.set_cons_zero, List.set_cons_succ])
          refine wpAnyH_take (i := 9) (oi := ?oit9) (v := ?vt9) ?hit9 (by kernel_rfl) (by kernel_rfl) (by kernel_rfl) (fun _ _ _ h => h) (Or.inl ⟨?wtt9, ?hyt9⟩) (by assumption) ?restt9
          case hit9 => (simp only [List.getElem?_toArray, List.getElem?_cons_succ, List.getElem?_cons_zero]; rfl)
          case wtt9 => rfl
          case hyt9 => (intro w hSw; (try dsimp only at hSw); go_simp) <;> (first | done | with_reducible rfl)
          (try simp only [Act.put, List.setIfInBounds_toArray, List.set_cons_zero, List.set_cons_succ])
          refine wpAnyH_take (i := 10) (oi := ?oit10) (v := ?vt10) ?hit10 (by kernel_rfl) (by kernel_rfl) (by kernel_rfl) (fun _ _ _ h => h) (Or.inl ⟨?wtt10, ?hyt10⟩) (by assumption) ?restt10
          case hit10 => (simp only [List.getElem?_toArray, List.getElem?_cons_succ, List.getElem?_cons_zero]; rfl)
          case wtt10 => rfl
          case hyt10 => (intro w hSw; (try dsimp only at hSw); go_simp) <;> (first | done | with_reducible rfl)
          (try simp only [Act.put, List.setIfInBounds_toArray, List.set_cons_zero, List.set_cons_succ])
          refine wpAnyH_take (i := 11) (oi := ?oit11) (v := ?vt11) ?hit11 (by kernel_rfl) (by kernel_rfl) (by kernel_rfl) (fun _ _ _ h => h) (Or.inl ⟨?wtt11, ?hyt11⟩) (by assumption) ?restt11
          case hit11 => (simp only [List.getElem?_toArray, List.getElem?_cons_succ, List.getElem?_cons_zero]; rfl)
          case wtt11 => rfl
          case hyt11 => (intro w hSw; (try dsimp only at hSw); go_simp) <;> (first | done | with_reducible rfl)
          (try simp only [Act.put, List.setIfInBounds_toArray, List.set_cons_zero, List.set_cons_succ])
          refine wpAnyH_take (i := 12) (oi := ?oit12) (v := ?vt12) ?hit12 (by kernel_rfl) (by kernel_rfl) (by kernel_rfl) (fun _ _ _ h => h) (Or.inl ⟨?wtt12, ?hyt12⟩) (by assumption) ?restt12
          case hit12 => (simp only [List.getElem?_toArray, List.getElem?_cons_succ, List.getElem?_cons_zero]; rfl)
          case wtt12 => rfl
          case hyt12 => (intro w hSw; (try dsimp only at hSw); go_simp) <;> (first | done | with_reducible rfl)
          (try simp only [Act.put, List.setIfInBounds_toArray, List.set_cons_zero, List.set_cons_succ])
          refine wpAnyH_take (i := 13) (oi := ?oit13) (v := ?vt13) ?hit13 (by kernel_rfl) (by kernel_rfl) (by kernel_rfl) (fun _ _ _ h => h) (Or.inl ⟨?wtt13, ?hyt13⟩) (by assumption) ?restt13
          case hit13 => (simp only [List.getElem?_toArray, List.getElem?_cons_succ, List.getElem?_cons_zero]; rfl)
          case wtt13 => rfl
          case hyt13 => (intro w hSw; (try dsimp only at hSw); go_simp) <;> (first | done | with_reducible rfl)
          (try simp only [Act.put, List.setIfInBounds_toArray, List.set_cons_zero, List.set_cons_succ])
          refine wpAnyH_take (i := 14) (oi := ?oit14) (v := undef) ?hit14 (by kernel_rfl) (by kernel_rfl) (by kernel_rfl) (fun _ _ _ h => h) (Or.inr ⟨?wtt14, rfl⟩) (by assumption) ?restt14
          case hit14 => (simp only [List.getElem?_toArray, List.getElem?_cons_succ, List.getElem?_cons_zero]; rfl)
          case wtt14 => rfl
          (try simp only [Act.put, List.setIfInBounds_toArray, List.set_cons_zero, List.set_cons_succ])
          refine wpAnyH_take (i := 15) (oi := ?oit15) (v := undef) ?hit15 (by kernel_rfl) (by kernel_rfl) (by kernel_rfl) (fun _ _ _ h => h) (Or.inr ⟨?wtt15, rfl⟩) (by assumption) ?restt15
          case hit15 => (simp only [List.getElem?_toArray, List.getElem?_cons_succ, List.getElem?_cons_zero]; rfl)
          case wtt15 => rfl
          (try simp only [Act.put, List.setIfInBounds_toArray, List.set_cons_zero, List.set_cons_succ])
          refine wpAnyH_take (i := 16) (oi := ?oit16) (v := undef) ?hit16 (by kernel_rfl) (by kernel_rfl) (by kernel_rfl) (fun _ _ _ h => h) (Or.inr ⟨?wtt16, rfl⟩) (by assumption) ?restt16
          case hit16 => (simp only [List.getElem?_toArray, List.getElem?_cons_succ, List.getElem?_cons_zero]; rfl)
          case wtt16 => rfl
          (try simp only [Act.put, List.setIfInBounds_toArray, List.set_cons_zero, List.set_cons_succ])
          refine wpAnyH_take (i := 17) (oi := ?oit17) (v := undef) ?hit17 (by kernel_rfl) (by kernel_rfl) (by kernel_rfl) (fun _ _ _ h => h) (Or.inr ⟨?wtt17, rfl⟩) (by assumption) ?restt17
          case hit17 => (simp only [List.getElem?_toArray, List.getElem?_cons_succ, List.getElem?_cons_zero]; rfl)
          case wtt17 => rfl
          (try simp only [Act.put, List.setIfInBounds_toArray, List.set_cons_zero, List.set_cons_succ])
          refine wpAnyH_take (i := 18) (oi := ?oit18) (v := undef) ?hit18 (by kernel_rfl) (by kernel_rfl) (by kernel_rfl) (fun _ _ _ h => h) (Or.inr ⟨?wtt18, rfl⟩) (by assumption) ?restt18
          case hit18 => (simp only [List.getElem?_toArray, List.getElem?_cons_succ, List.getElem?_cons_zero]; rfl)
          case wtt18 => rfl
          (try simp only [Act.put, List.setIfInBounds_toArray, List.set_cons_zero, List.set_cons_succ])
          refine wpAnyH_take (i := 19) (oi := ?oit19) (v := undef) ?hit19 (by kernel_rfl) (by kernel_rfl) (by kernel_rfl) (fun _ _ _ h => h) (Or.inr ⟨?wtt19, rfl⟩) (by assumption) ?restt19
          case hit19 => (simp only [List.getElem?_toArray, List.getElem?_cons_succ, List.getElem?_cons_zero]; rfl)
          case wtt19 => rfl
          (try simp only [Act.put, List.setIfInBounds_toArray, List.set_cons_zero, List.set_cons_succ])
          refine wpAnyH_take (i := 20) (oi := ?oit20) (v := undef) ?hit20 (by kernel_rfl) (by kernel_rfl) (by kernel_rfl) (fun _ _ _ h => h) (Or.inr ⟨?wtt20, rfl⟩) (by assumption) ?restt20
          case hit20 => (simp only [List.getElem?_toArray, List.getElem?_cons_succ, List.getElem?_cons_zero]; rfl)
          case wtt20 => rfl
          (try simp only [Act.put, List.setIfInBounds_toArray, List.set_cons_zero, List.set_cons_succ])
          refine wpAnyH_take (i := 21) (oi := ?oit21) (v := undef) ?hit21 (by kernel_rfl) (by kernel_rfl) (by kernel_rfl) (fun _ _ _ h => h) (Or.inr ⟨?wtt21, rfl⟩) (by assumption) ?restt21
          case hit21 => (simp only [List.getElem?_toArray, List.getElem?_cons_succ, List.getElem?_cons_zero]; rfl)
          case wtt21 => rfl
          (try simp only [Act.put, List.setIfInBounds_toArray, List.set_cons_zero, List.set_cons_succ])
          refine wpAnyH_take (i := 22) (oi := ?oit22) (v := undef) ?hit22 (by kernel_rfl) (by kernel_rfl) (by kernel_rfl) (fun _ _ _ h => h) (Or.inr ⟨?wtt22, rfl⟩) (by assumption) ?restt22
          case hit22 => (simp only [List.getElem?_toArray, List.getElem?_cons_succ, List.getElem?_cons_zero]; rfl)
          case wtt22 => rfl
          (try simp only [Act.put, List.setIfInBounds_toArray, List.set_cons_zero, List.set_cons_succ])
          refine wpAnyH_ready (rs := [23]) (by kernel_rfl) (by simp) ?_
          refine AllReadyH.cons (o := ?ot23) ?hot23 (fun K hK => ?bodyt23) AllReadyH.nil
          case hot23 => (simp only [List.getElem?_toArray, List.getElem?_cons_succ, List.getElem?_cons_zero]; rfl)
          refine not_wanted (by rfl) ?_
          refine hK.out _ _ ?_ (fun hHeld => ?_)
          · first | exact trivial | ((try dsimp only); exact HKEEP.out _ hb0.drew)
          clear hK K
          (try simp only [Act.put, List.setIfInBounds_toArray, List.set_cons_zero, List.set_cons_succ])
          refine wpAnyH_ready (rs := [24]) (by kernel_rfl) (by simp) ?_
          refine AllReadyH.cons (o := ?ot24) ?hot24 (fun K hK => ?bodyt24) AllReadyH.nil
          case hot24 => (simp only [List.getElem?_toArray, List.getElem?_cons_succ, List.getElem?_cons_zero]; rfl)
          refine not_wanted (by rfl) ?_
          refine hK.out _ _ ?_ (fun hHeld => ?_)
          · first | exact trivial | ((try dsimp only); exact HKEEP.out _ hb0.drew)
          clear hK K
          (try simp only [Act.put, List.setIfInBounds_toArray, List.set_cons_zero, List.set_cons_succ])
          refine wpAnyH_take (i := 25) (oi := ?oit25) (v := undef) ?hit25 (by kernel_rfl) (by kernel_rfl) (by kernel_rfl) (fun _ _ _ h => h) (Or.inr ⟨?wtt25, rfl⟩) (by assumption) ?restt25
          case hit25 => (simp only [List.getElem?_toArray, List.getElem?_cons_succ, List.getElem?_cons_zero]; rfl)
          case wtt25 => rfl
          (try simp only [Act.put, List.setIfInBounds_toArray, List.set_cons_zero, List.set_cons_succ])
          refine wpAnyH_take (i := 26) (oi := ?oit26) (v := ?vt26) ?hit26 (by kernel_rfl) (by kernel_rfl) (by kernel_rfl) (fun _ _ _ h => h) (Or.inl ⟨?wtt26, ?hyt26⟩) (by assumption) ?restt26
          case hit26 => (simp only [List.getElem?_toArray, List.getElem?_cons_succ, List.getElem?_cons_zero]; rfl)
          case wtt26 => rfl
          case hyt26 => (intro w hSw; (try dsimp only at hSw); go_simp) <;> (first | done | with_reducible rfl)
          (try simp only [Act.put, List.setIfInBounds_toArray, List.set_cons_zero, List.set_cons_succ])
          refine wpAnyH_take (i := 27) (oi := ?oit27) (v := ?vt27) ?hit27 (by kernel_rfl) (by kernel_rfl) (by kernel_rfl) (fun _ _ _ h => h) (Or.inl ⟨?wtt27, ?hyt27⟩) (by assumption) ?restt27
          case hit27 => (simp only [List.getElem?_toArray, List.getElem?_cons_succ, List.getElem?_cons_zero]; rfl)
          case wtt27 => rfl
          case hyt27 => (intro w hSw; (try dsimp only at hSw); go_simp) <;> (first | done | with_reducible rfl)
          (try simp only [Act.put, List.setIfInBounds_toArray, List.set_cons_zero, List.set_cons_succ])
          refine wpAnyH_take (i := 28) (oi := ?oit28) (v := ?vt28) ?hit28 (by kernel_rfl) (by kernel_rfl) (by kernel_rfl) (fun _ _ _ h => h) (Or.inl ⟨?wtt28, ?hyt28⟩) (by assumption) ?restt28
          case hit28 => (simp only [List.getElem?_toArray, List.getElem?_cons_succ, List.getElem?_cons_zero]; rfl)
          case wtt28 => rfl
          case hyt28 => (intro w hSw; (try dsimp only at hSw); go_simp) <;> (first | done | with_reducible rfl)
          (try simp only [Act.put, List.setIfInBounds_toArray, List.set_cons_zero, List.set_cons_succ])
          refine wpAnyH_done (by kernel_rfl) ?_ _
          refine NoPanic.normal ?_
          go_wp2_with fail
          go_ret
          exact ⟨rfl, (by first | exact HB9.out | exact HB9.out.drew)⟩
end Go.Proofs.YtfppbkpdpapemaaDoor
