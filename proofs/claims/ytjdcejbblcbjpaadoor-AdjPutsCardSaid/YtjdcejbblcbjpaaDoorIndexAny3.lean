import Derived.Test.YtjdcejbblcbjpaaDoorIndexAny2
/-! bytes.IndexAny, bytes.ContainsAny at the four blanks: short texts, and all. -/
set_option linter.unusedSimpArgs false
set_option linter.unusedVariables false
namespace Go.Proofs.YtjdcejbblcbjpaaDoor
open Go.RowKit Go.Proofs.YtjdcejbblcbjpaaDoorW.PrintWords Go.Proofs.YtjdcejbblcbjpaaDoorW.PrintLast Go.Proofs.YtjdcejbblcbjpaaDoorW.PrintMore

theorem getD_drop' (l : List UInt8) (k j : Nat) : (l.drop k).getD j 0 = l.getD (k + j) 0 := by simp [List.getD]
theorem any_more {l : List UInt8} {k : Nat} (h1 : (l.take k).any Pl.bl = false) : ∀ m, k + m ≤ l.length → (∀ j, j < m → 128 ≤ ((l.drop k).getD j 0).toNat) → (l.take (k + m)).any Pl.bl = false
  | 0, _, _ => h1
  | m + 1, hm, h => any_take (k := k + m) (by omega) (any_more h1 m (by omega) fun j hj => h j (by omega)) (Pl.bl_high (by have := h m (by omega); rwa [getD_drop'] at this))
theorem enc_ne' (r : Nat) (h1 : 128 ≤ r) (hv : Utf8.valid (r : Int) = true) (h : ([32, 9, 13, 10] == (Utf8.encode (r : Int)).toList) = true) : False := by
  have h2 := enc_nowhere r h1 hv
  rw [Lib.toList_data] at h
  rw [← eq_of_beq h] at h2
  exact absurd h2 (by decide)

set_option maxRecDepth 100000 in
set_option maxHeartbeats 8000000 in
theorem indexany_short (v : Value) (l : List UInt8) (w : World) (hv : Rd kb w v l) (ht : Tab3 w) (h0 : 0 < l.length) (h1 : l.length ≠ 1) (h8 : l.length ≤ 8) : Calls Tryd.prog 36 #[v, .string ⟨#[32, 9, 13, 10]⟩] w (IdxSaid l w) := by
  have HV := Lib.hid hv
  have HT := Lib.hid ht
  obtain ⟨ab, ao, cp, rfl, hc, hcell⟩ := rd_plain hv h0
  have HC := Lib.hid hcell
  obtain ⟨A', c', he, hcc, hF⟩ := id hv
  injection he with e1 e2 e3
  subst e1 e3
  have HF := Lib.hid hF
  clear hv hcell ht hF e2 hcc
  obtain ⟨n, hn⟩ : ∃ n : Nat, l.length = n := ⟨_, rfl⟩
  have HN := Lib.hid hn
  rw [hn] at hc h0 h1 h8 ⊢
  have hn1 : ((n : Int) == 1) = false := beq_eq_false_iff_ne.2 (by omega)
  have hd8 : decide ((8 : Int) < (n : Int)) = false := decide_eq_false (by omega)
  clear hn
  go_enter Tryd.func36, Tryd.ntmps36
  go_wp2_with (go_at_call 48; refine (should_any _ _).mono ?_; rintro e w0 ⟨rfl, rfl⟩; rw [hd8])
  go_loopw [11, 12, 13, 15] (fun a i b d wr => ∃ k : Nat, i = .int .i64 (k : Int) ∧ Aside0 (k ≤ n) ∧ Aside0 ((l.take k).any Pl.bl = false) ∧ Aside0 (Below w.heap.size w wr)) (fun _ i _ _ _ => n - (intOf i).toNat)
  case atStart => exact ⟨0, rfl, ⟨by omega⟩, ⟨by simp⟩, ⟨Below.refl _ _⟩⟩
  case round =>
    obtain ⟨k, rfl, hk, hno, HB⟩ := hrel
    by_cases hlt : k < n
    · have q0 : (0 : Int) ≤ (k : Int) := by omega
      have q1 : (k : Int) < (n : Int) := by omega
      have hkl : k < l.length := by rw [HN.out]; exact hlt
      obtain ⟨c, hx⟩ : ∃ c, l.getD k 0 = c := ⟨_, rfl⟩
      have hc1 : wr.cell? ⟨ab, ao + k, none⟩ = some (.int .u8 (c.toNat : Int)) := by rw [← hx]; exact cell_below HB.out (HC.out k hkl)
      have hc8 := c.toNat_lt
      obtain ⟨x, hxn⟩ : ∃ x, c.toNat = x := ⟨_, rfl⟩
      rw [hxn] at hc1 hc8
      have HX := Lib.hid (⟨hx, hxn⟩ : l.getD k 0 = c ∧ c.toNat = x)
      have HKL := Lib.hid hkl
      obtain ⟨z, hz⟩ : ∃ z, Lib.indexByte Pl.bls c = z := ⟨_, rfl⟩
      have HZ := Lib.hid hz
      clear hx hxn hkl hz
      by_cases h128 : x < 128
      · have hw1 : IntKind.i64.wrap ((k : Int) + 1) = (k : Int) + 1 := IntWalk.i64_in _ (by omega)
        have hx1 : (x : Int) < 128 := by omega
        go_wp2_with fail
        rw [run_callFunc_extern Tryd.func46 (by kernel_rfl) (by kernel_rfl) (by kernel_rfl) (e := Extern.BytealgIndexByte.indexByte) (by kernel_rfl), Lib.run_indexByteString]
        rw [show Lib.indexByte (⟨#[32, 9, 13, 10]⟩ : ByteArray).data.toList (x : Int).toNat.toUInt8 = z by rw [← HZ.out, Int.toNat_natCast, ← HX.out.2]; simp [Pl.bls]]
        simp only [Result.andThen]
        rw [Oper.upon_value]
        rcases hb : Pl.bl c with _ | _
        · have hz : ¬ (0 : Int) ≤ z := by rw [← HZ.out, Pl.bl_idx, hb]; simp
          go_wp2_with fail
          go_roundw
          case rel => exact ⟨k + 1, by go_num, ⟨by omega⟩, ⟨any_take HKL.out hno.out (by rw [HX.out.1]; exact hb)⟩, HB⟩
          case measure => simp [intOf]; omega
        · have hz : (0 : Int) ≤ z := by rw [← HZ.out, Pl.bl_idx, hb]
          go_wp2_with fail
          go_ret
          exact ⟨(k : Int), rfl, ⟨fun _ => any_hit HKL.out (by rw [HX.out.1]; exact hb), fun _ => q0⟩, HB.out⟩
      · have hx1 : ¬ (x : Int) < 128 := by omega
        obtain ⟨A2, hfrom, hV2⟩ := byte_from HF.out (by rw [HN.out]; exact hc) k (by rw [HN.out]; omega)
        rw [HN.out] at hfrom hV2
        replace hfrom := hfrom .i64 (k : Int) rfl
        have HD := Lib.hid (Rd.below (Kd.V_mono hV2 fun _ _ => trivial) HB.out : Rd kb wr (.slice A2 (n - k) (cp - k)) (l.drop k))
        clear hV2
        go_wp2_with fail
        refine (decode_any _ (l.drop k) wr HD.out (HT.out.below HB.out) (by simp; have := HKL.out; omega) (by rw [getD_drop', Nat.add_zero, HX.out.1, HX.out.2]; omega)).mono ?_
        rintro e W5 ⟨r, m, rfl, hr, hb5⟩
        have HR := Lib.hid hr
        have HB5 := Lib.hid (bthen HB.out hb5)
        have r1 := hr.r1
        have r2 := hr.r2
        have m4 := hr.n4
        have HNO := Lib.hid (any_more hno.out m (by have := hr.nl; simp at this; have := HKL.out; omega) hr.hi)
        have hwm : IntKind.i64.wrap ((k : Int) + (m : Int)) = (k : Int) + (m : Int) := IntWalk.i64_in _ (by omega)
        clear hr hb5 hfrom
        by_cases hre : r = 65533
        · subst hre
          go_wp2_with fail
          go_loopw [15] (fun d wx => ∃ j : Nat, wx = W5.iter ⟨#[32, 9, 13, 10]⟩ j ∧ Aside0 (j ≤ 4)) (fun d wx => 4 - wx.iterPos W5.heap.size)
          case atStart => exact ⟨0, rfl, ⟨by omega⟩⟩
          case round =>
            obtain ⟨j, rfl, hj⟩ := hrel
            by_cases hjlt : j < 4
            · have hsz : j < (⟨#[32, 9, 13, 10]⟩ : ByteArray).size := hjlt
              have hnx := fun ty => run_next_ascii (P := Tryd.prog) W5 ⟨#[32, 9, 13, 10]⟩ j ty hsz (bls_at j hsz)
              have hx8 := bls_at j hsz
              obtain ⟨y, hy⟩ : ∃ y, ((⟨#[32, 9, 13, 10]⟩ : ByteArray)[j]'hsz).toNat = y := ⟨_, rfl⟩
              rw [hy] at hnx hx8
              have hne : ((65533 : Int) == (y : Int)) = false := by rw [beq_eq_false_iff_ne]; omega
              clear hy
              go_wp2_with fail
              go_roundw
              case rel => exact ⟨j + 1, rfl, ⟨by omega⟩⟩
              case measure => simp; omega
            · obtain rfl : j = 4 := by have := hj.out; omega
              have hnx := fun ty => run_next_end (P := Tryd.prog) W5 ⟨#[32, 9, 13, 10]⟩ 4 ty (by decide)
              go_wp2_with fail
              go_roundw
              case rel => exact ⟨k + m, by go_num, ⟨by have := HR.out.nl; simp at this; have := HN.out; omega⟩, ⟨HNO.out⟩, ⟨below_iter HB5.out _ _⟩⟩
              case measure => simp [intOf]; have := HR.out.n1; omega
        · have hne1 : ((r : Int) == 65533) = false := by rw [beq_eq_false_iff_ne]; omega
          have hE := HR.out.e hre
          have HE := Lib.hid hE
          by_cases hm4 : m = 4
          · subst hm4
            clear hE
            go_wp2_with fail
            · exfalso
              rename_i heq
              exact enc_ne' r r1 HE.out.2.2 heq
            · go_roundw
              case rel => exact ⟨k + 4, by go_num, ⟨by have := HR.out.nl; simp at this; have := HN.out; omega⟩, ⟨HNO.out⟩, ⟨HB5.out⟩⟩
              case measure => simp [intOf]; omega
          · have hq4 : ((4 : Int) == (m : Int)) = false := by rw [beq_eq_false_iff_ne]; omega
            clear hE
            obtain ⟨mx, hmx⟩ := (HT.out.below HB5.out).m
            by_cases hle : (m : Int) ≤ mx
            · go_wp2_with fail
              rw [run_callFunc_extern Tryd.func52 (by kernel_rfl) (by kernel_rfl) (by kernel_rfl) (e := Extern.BytealgIndex.index) (by kernel_rfl), Lib.run_indexString ⟨#[32, 9, 13, 10]⟩ (Utf8.encode (r : Int)) _ 0 mx (by kernel_rfl) hmx (by rw [HE.out.2.1]; exact HE.out.1) (by rw [HE.out.2.1]; exact hle) (by decide)]
              rw [show Lib.index (⟨#[32, 9, 13, 10]⟩ : ByteArray).data.toList (Utf8.encode (r : Int)).data.toList = -1 from enc_nowhere r r1 HE.out.2.2]
              simp only [Result.andThen]
              rw [Oper.upon_value]
              go_wp2_with fail
              go_roundw
              case rel => exact ⟨k + m, by go_num, ⟨by have := HR.out.nl; simp at this; have := HN.out; omega⟩, ⟨HNO.out⟩, ⟨HB5.out⟩⟩
              case measure => simp [intOf]; have := HR.out.n1; omega
            · go_wp2_with fail
              go_loopw [15] (fun d wx => ∃ j : Nat, wx = W5.iter ⟨#[32, 9, 13, 10]⟩ j ∧ Aside0 (j ≤ 4)) (fun d wx => 4 - wx.iterPos W5.heap.size)
              case atStart => exact ⟨0, rfl, ⟨by omega⟩⟩
              case round =>
                obtain ⟨j, rfl, hj⟩ := hrel
                by_cases hjlt : j < 4
                · have hsz : j < (⟨#[32, 9, 13, 10]⟩ : ByteArray).size := hjlt
                  have hnx := fun ty => run_next_ascii (P := Tryd.prog) W5 ⟨#[32, 9, 13, 10]⟩ j ty hsz (bls_at j hsz)
                  have hx8 := bls_at j hsz
                  obtain ⟨y, hy⟩ : ∃ y, ((⟨#[32, 9, 13, 10]⟩ : ByteArray)[j]'hsz).toNat = y := ⟨_, rfl⟩
                  rw [hy] at hnx hx8
                  have hne : ((r : Int) == (y : Int)) = false := by rw [beq_eq_false_iff_ne]; omega
                  clear hy
                  go_wp2_with fail
                  go_roundw
                  case rel => exact ⟨j + 1, rfl, ⟨by omega⟩⟩
                  case measure => simp; omega
                · obtain rfl : j = 4 := by have := hj.out; omega
                  have hnx := fun ty => run_next_end (P := Tryd.prog) W5 ⟨#[32, 9, 13, 10]⟩ 4 ty (by decide)
                  go_wp2_with fail
                  go_roundw
                  case rel => exact ⟨k + m, by go_num, ⟨by have := HR.out.nl; simp at this; have := HN.out; omega⟩, ⟨HNO.out⟩, ⟨below_iter HB5.out _ _⟩⟩
                  case measure => simp [intOf]; have := HR.out.n1; omega
    · obtain rfl : k = n := by have := hk.out; omega
      go_wp2_with fail
      go_ret
      refine ⟨-1, rfl, ⟨fun h => by omega, fun h => ?_⟩, HB.out⟩
      have := hno.out
      rw [List.take_of_length_le (by rw [HN.out]; exact Nat.le_refl _), h] at this
      cases this

theorem indexany_any (v : Value) (l : List UInt8) (w : World) (hv : Rd kb w v l) (ht : Tab3 w) (h0 : 0 < l.length) (hl : l.length ≤ 1048576) : Calls Tryd.prog 36 #[v, .string ⟨#[32, 9, 13, 10]⟩] w (IdxSaid l w) := by
  by_cases h1 : l.length = 1
  · match l, h1 with
    | [c], _ => exact indexany_one v c w hv
  · by_cases h8 : 8 < l.length
    · exact indexany_long v l w hv hl h8
    · exact indexany_short v l w hv ht h0 h1 (by omega)
theorem containsany_any (v : Value) (l : List UInt8) (w : World) (hv : Rd kb w v l) (ht : Tab3 w) (h0 : 0 < l.length) (hl : l.length ≤ 1048576) : Calls Tryd.prog 26 #[v, .string ⟨#[32, 9, 13, 10]⟩] w fun e w' => e = .returned (.bool (l.any Pl.bl)) ∧ Below w.heap.size w w' := by
  have HI := Lib.hid (indexany_any v l w hv ht h0 hl)
  go_enter Tryd.func26, Tryd.ntmps26
  go_wp2_with (go_at_call 36; refine HI.out.mono ?_; rintro e w1 ⟨z, rfl, hz, hb⟩; have HZ := Lib.hid hz; clear hz)
  go_ret
  refine ⟨?_, hb⟩
  have e1 : decide (0 ≤ z) = l.any Pl.bl := Bool.eq_iff_iff.2 ⟨fun h => HZ.out.1 (of_decide_eq_true h), fun h => decide_eq_true (HZ.out.2 h)⟩
  rw [← e1]
  rfl
end Go.Proofs.YtjdcejbblcbjpaaDoor
