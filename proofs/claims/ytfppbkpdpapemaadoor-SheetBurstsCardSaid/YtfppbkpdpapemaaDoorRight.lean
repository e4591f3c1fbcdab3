import Derived.Test.YtfppbkpdpapemaaDoorBase
import Derived.Test.YtfppbkpdpapemaaDoorCfgKit
/-! feed.within, feed.Right. -/
set_option linter.unusedSimpArgs false
set_option linter.unusedVariables false
namespace Go.Proofs.YtfppbkpdpapemaaDoor
open Go.RowKit Go.Proofs.YtfppbkpdpapemaaDoorW.PrintWords Go.Proofs.YtfppbkpdpapemaaDoorW.PrintLast Go.Proofs.YtfppbkpdpapemaaDoorW.PrintMore
attribute [local go_sem] max2_int min2_int max_two min_two

theorem within_any (n lo hi : Int) (w : World) : Calls Tryd.prog 40 #[.int .i64 n, .int .i64 lo, .int .i64 hi] w fun e w' => e = .returned (.bool (Pl.within n lo hi)) ∧ w = w' := by
  by_cases h : lo ≤ n
  · have hd : decide (lo ≤ n) = true := by simpa using h
    by_cases h2 : n ≤ hi
    · have hd2 : decide (n ≤ hi) = true := by simpa using h2
      have e : Pl.within n lo hi = true := by simp [Pl.within, h, h2]
      rw [e]
      clear e
      go_enter Tryd.func40, Tryd.ntmps40
      go_wp2_with fail
      go_ret
      exact ⟨rfl, rfl⟩
    · have hd2 : decide (n ≤ hi) = false := by simpa using h2
      have e : Pl.within n lo hi = false := by simp [Pl.within, h2]
      rw [e]
      clear e
      go_enter Tryd.func40, Tryd.ntmps40
      go_wp2_with fail
      go_ret
      exact ⟨rfl, rfl⟩
  · have hd : decide (lo ≤ n) = false := by simpa using h
    have e : Pl.within n lo hi = false := by simp [Pl.within, h]
    rw [e]
    clear e
    go_enter Tryd.func40, Tryd.ntmps40
    go_wp2_with fail
    go_ret
    exact ⟨rfl, rfl⟩

theorem u8_is (c d : UInt8) (k : Int) (hk : k = (d.toNat : Int)) : ((c.toNat : Int) == k) = (c == d) := by subst hk; exact u8_beq c d

theorem right_of {c : Pl.Cfg} {f b1 b2 b3 : Bool} (h0 : Pl.fmtOk c = f) (h1 : Pl.within c.bud 2 4096 = b1) (h2 : Pl.within c.fan 2 (min 16 c.bud) = b2) (h3 : Pl.within c.sha 1 16 = b3) : Pl.right c = (f && b1 && b2 && b3) := by
  rw [Pl.right, h0, h1, h2, h3]

set_option maxRecDepth 100000 in
set_option maxHeartbeats 2000000 in
theorem right_any (c : Pl.Cfg) (w : World) : Calls Tryd.prog 21 #[cfgV c] w fun e w' => e = .returned (.bool (Pl.right c)) ∧ Below w.heap.size w w' := by
  have f3 := u8_is c.fmt 3 3 rfl
  have f1 := u8_is c.fmt 1 1 rfl
  have f2 := u8_is c.fmt 2 2 rfl
  obtain ⟨f, hf⟩ : ∃ f, Pl.fmtOk c = f := ⟨_, rfl⟩
  obtain ⟨b1, h1⟩ : ∃ f, Pl.within c.bud 2 4096 = f := ⟨_, rfl⟩
  obtain ⟨m, hm⟩ : ∃ m, min 16 c.bud = m := ⟨_, rfl⟩
  obtain ⟨b2, h2⟩ : ∃ f, Pl.within c.fan 2 m = f := ⟨_, rfl⟩
  obtain ⟨b3, h3⟩ : ∃ f, Pl.within c.sha 1 16 = f := ⟨_, rfl⟩
  have h2m : Pl.within c.fan 2 (min 16 c.bud) = b2 := by rw [hm]; exact h2
  rw [right_of hf h1 h2m h3]
  clear h2m
  have H1 := Lib.hid h1
  have H2 := Lib.hid h2
  have H3 := Lib.hid h3
  unfold Pl.fmtOk at hf
  rcases hb3 : (c.fmt == 3) with _ | _
  · rw [hb3] at f3 hf
    rcases hb1 : (c.fmt == 1) with _ | _
    · rw [hb1] at f1 hf
      rcases hb2 : (c.fmt == 2) with _ | _
      · rw [hb2] at f2 hf
        obtain rfl : false = f := by simpa using hf
        clear H1 H2 H3 h1 h2 h3 hf hm
        go_enter Tryd.func21, Tryd.ntmps21
        go_wp2_with fail
        go_ret
        exact ⟨by simp, below_alloc (Below.refl _ _) _⟩
      · rw [hb2] at f2 hf
        obtain rfl : true = f := by simpa using hf
        clear h1 h2 h3 hf
        by_cases hs : c.bud < 16
        · obtain rfl : c.bud = m := by omega
          clear hm
          cases b1 <;> cases b2 <;> cases b3 <;>
          · go_enter Tryd.func21, Tryd.ntmps21
            go_wp2_with (go_at_call 40; refine (within_any _ _ _ _).mono ?_; rintro e w1 ⟨rfl, rfl⟩; first | rw [H1.out] | rw [H2.out] | rw [H3.out])
            go_ret
            exact ⟨by simp, below_alloc (Below.refl _ _) _⟩
        · obtain rfl : 16 = m := by omega
          clear hm
          cases b1 <;> cases b2 <;> cases b3 <;>
          · go_enter Tryd.func21, Tryd.ntmps21
            go_wp2_with (go_at_call 40; refine (within_any _ _ _ _).mono ?_; rintro e w1 ⟨rfl, rfl⟩; first | rw [H1.out] | rw [H2.out] | rw [H3.out])
            go_ret
            exact ⟨by simp, below_alloc (Below.refl _ _) _⟩
    · rw [hb1] at f1 hf
      obtain rfl : true = f := by simpa using hf
      clear f2 h1 h2 h3 hf
      by_cases hs : c.bud < 16
      · obtain rfl : c.bud = m := by omega
        clear hm
        cases b1 <;> cases b2 <;> cases b3 <;>
        · go_enter Tryd.func21, Tryd.ntmps21
          go_wp2_with (go_at_call 40; refine (within_any _ _ _ _).mono ?_; rintro e w1 ⟨rfl, rfl⟩; first | rw [H1.out] | rw [H2.out] | rw [H3.out])
          go_ret
          exact ⟨by simp, below_alloc (Below.refl _ _) _⟩
      · obtain rfl : 16 = m := by omega
        clear hm
        cases b1 <;> cases b2 <;> cases b3 <;>
        · go_enter Tryd.func21, Tryd.ntmps21
          go_wp2_with (go_at_call 40; refine (within_any _ _ _ _).mono ?_; rintro e w1 ⟨rfl, rfl⟩; first | rw [H1.out] | rw [H2.out] | rw [H3.out])
          go_ret
          exact ⟨by simp, below_alloc (Below.refl _ _) _⟩
  · rw [hb3] at f3 hf
    obtain hc3 : c.fmt = 3 := by simpa using hb3
    rw [hc3] at hf
    rcases hn : c.num with _ | _
    · rw [hn] at hf
      obtain rfl : false = f := by simpa using hf
      clear f1 f2 H1 H2 H3 h1 h2 h3 hf hm hb3 hc3
      go_enter Tryd.func21, Tryd.ntmps21
      go_wp2_with fail
      go_ret
      exact ⟨by simp, below_alloc (Below.refl _ _) _⟩
    · rw [hn] at hf
      obtain rfl : true = f := by simpa using hf
      clear f1 f2 h1 h2 h3 hf hb3 hc3
      by_cases hs : c.bud < 16
      · obtain rfl : c.bud = m := by omega
        clear hm
        cases b1 <;> cases b2 <;> cases b3 <;>
        · go_enter Tryd.func21, Tryd.ntmps21
          go_wp2_with (go_at_call 40; refine (within_any _ _ _ _).mono ?_; rintro e w1 ⟨rfl, rfl⟩; first | rw [H1.out] | rw [H2.out] | rw [H3.out])
          go_ret
          exact ⟨by simp, below_alloc (Below.refl _ _) _⟩
      · obtain rfl : 16 = m := by omega
        clear hm
        cases b1 <;> cases b2 <;> cases b3 <;>
        · go_enter Tryd.func21, Tryd.ntmps21
          go_wp2_with (go_at_call 40; refine (within_any _ _ _ _).mono ?_; rintro e w1 ⟨rfl, rfl⟩; first | rw [H1.out] | rw [H2.out] | rw [H3.out])
          go_ret
          exact ⟨by simp, below_alloc (Below.refl _ _) _⟩
end Go.Proofs.YtfppbkpdpapemaaDoor
