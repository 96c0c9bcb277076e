/-
  steps, and Append.
-/
import Derived.Test.YtnfmcmjfpbmloaaJrE
namespace Go.Proofs.Ytnfmcmjfpbmloaa
open Go.RowKit

set_option maxRecDepth 100000 in
set_option maxHeartbeats 2000000 in
theorem mark_any (w : World) (x jb xe : Nat) (c : Int) (u : FrameMode) (hx : w.cell? ⟨x, 0, none⟩ = some (.pointer (some ⟨jb, 0, none⟩))) (hb : w.cell? ⟨jb, 4, none⟩ = some (.bool false)) (fb : w.frozen? ⟨jb, 4, none⟩ = false) (he : w.cell? ⟨xe, 0, none⟩ = some (.int .i64 c)) :
    CallsD Try.prog 69 #[.pointer (some ⟨x, 0, none⟩), .pointer (some ⟨xe, 0, none⟩)] u w fun e u' w' => u' = u ∧ (e = .returned (.tuple #[]) ∧ w' = (w.setCell ⟨jb, 4, none⟩ (.bool (c != 0))).drew) := by
  go_enter_d Try.func69, Try.ntmps69
  go_wp2_with fail
  go_region
  all_goals
    go_end0
    exact ⟨rfl, rfl⟩

/-- Two writes, a Sync after each; the first that fails ends it. -/
def DS.step (σ : DS) (o : Int) (s : List UInt8) : DS × Int :=
  if σ.writeE o s ≠ 0 then (σ.write o s, σ.writeE o s) else ((σ.write o s).sync, (σ.write o s).syncE)
def DS.two (σ : DS) (o1 : Int) (s1 : List UInt8) (o2 : Int) (s2 : List UInt8) : DS × Int :=
  if (σ.step o1 s1).2 ≠ 0 then σ.step o1 s1 else (σ.step o1 s1).1.step o2 s2

section
variable {w0 w : World} {L : List HP} {g jb xj xr xn ws : Nat} {σ : DS} {m b e n : Int} {s : ByteArray}

/-- What lies there while steps runs. -/
abbrev StL (xe b0 ws xj xr xn jb g : Nat) (c m b e n : Int) (s : ByteArray) (br : Bool) (σ : DS) (L : List HP) : List HP :=
  bl xe 44 #[.int .i64 c] :: bl b0 65 #[.pointer (some ⟨jb, 0, none⟩)] :: bl ws 46 #[.func (.func 63) #[] #[.pointer (some ⟨xj, 0, none⟩), .pointer (some ⟨xr, 0, none⟩)], .func (.func 65) #[] #[.pointer (some ⟨xj, 0, none⟩), .pointer (some ⟨xn, 0, none⟩)]] ::
    bl xj 65 #[.pointer (some ⟨jb, 0, none⟩)] :: bl xr 9 #[.string s] :: bl xn 3 #[.int .i64 n] :: jn jb g m b e br :: dk g σ :: L

theorem steps_close {xe b0 : Nat} {c : Int} (h : At w0 w (StL xe b0 ws xj xr xn jb g c m b e n s false σ L)) :
    At w0 (w.setCell ⟨jb, 4, none⟩ (.bool (c != 0))).drew (bl ws 46 #[.func (.func 63) #[] #[.pointer (some ⟨xj, 0, none⟩), .pointer (some ⟨xr, 0, none⟩)], .func (.func 65) #[] #[.pointer (some ⟨xj, 0, none⟩), .pointer (some ⟨xn, 0, none⟩)]] ::
      bl xj 65 #[.pointer (some ⟨jb, 0, none⟩)] :: bl xr 9 #[.string s] :: bl xn 3 #[.int .i64 n] :: jn jb g m b e (c != 0) :: dk g σ :: L) :=
  (at_set h 6 rfl 4 (.bool (c != 0)) _ rfl).drew.tail.tail
/-- Between two rounds of steps. -/
def TwoAt (σ : DS) (o1 : Int) (s1 : List UInt8) (o2 : Int) (s2 : List UInt8) (k : Nat) (σk : DS) : Prop :=
  (k = 0 ∧ σk = σ) ∨ (k = 1 ∧ (σ.step o1 s1).2 = 0 ∧ σk = (σ.step o1 s1).1) ∨ (k = 2 ∧ (σ.step o1 s1).2 = 0 ∧ ((σ.step o1 s1).1.step o2 s2).2 = 0 ∧ σk = ((σ.step o1 s1).1.step o2 s2).1)
/-- What steps leaves. -/
abbrev StepsPost (w0 : World) (L : List HP) (ws xj xr xn jb g : Nat) (m b e n : Int) (s : ByteArray) (τ : DS × Int) (r : Ending) (w' : World) : Prop := r = .returned (.int .i64 τ.2) ∧
      At w0 w' (bl ws 46 #[.func (.func 63) #[] #[.pointer (some ⟨xj, 0, none⟩), .pointer (some ⟨xr, 0, none⟩)], .func (.func 65) #[] #[.pointer (some ⟨xj, 0, none⟩), .pointer (some ⟨xn, 0, none⟩)]] ::
        bl xj 65 #[.pointer (some ⟨jb, 0, none⟩)] :: bl xr 9 #[.string s] :: bl xn 3 #[.int .i64 n] :: jn jb g m b e (τ.2 != 0) :: dk g τ.1 :: L)
section
variable {o1 o2 : Int} {s1 s2 : List UInt8} {σk : DS} {w' : World} {c1 c2 : Int}
abbrev StepsAt (w0 : World) (L : List HP) (ws xj xr xn jb g : Nat) (m b e n : Int) (s : ByteArray) (c : Int) (σ' : DS) (w' : World) : Prop := At w0 w' (bl ws 46 #[.func (.func 63) #[] #[.pointer (some ⟨xj, 0, none⟩), .pointer (some ⟨xr, 0, none⟩)], .func (.func 65) #[] #[.pointer (some ⟨xj, 0, none⟩), .pointer (some ⟨xn, 0, none⟩)]] ::
        bl xj 65 #[.pointer (some ⟨jb, 0, none⟩)] :: bl xr 9 #[.string s] :: bl xn 3 #[.int .i64 n] :: jn jb g m b e (c != 0) :: dk g σ' :: L)
theorem step_ok {σ : DS} {o : Int} {s : List UInt8} (h : σ.writeE o s = 0) : σ.step o s = ((σ.write o s).sync, (σ.write o s).syncE) := by unfold DS.step; rw [if_neg (by simp [h])]
theorem two_of {τ : DS × Int} {c : Int} {σ' : DS} (h : StepsAt w0 L ws xj xr xn jb g m b e n s c σ' w') (hτ : τ = (σ', c)) : StepsPost w0 L ws xj xr xn jb g m b e n s τ (.returned (.int .i64 c)) w' := by
  subst hτ
  exact ⟨rfl, h⟩
theorem two_fail0 (h : TwoAt σ o1 s1 o2 s2 0 σk) (hc : σk.writeE o1 s1 = c1) (hz : ¬ c1 = 0) (hf : StepsAt w0 L ws xj xr xn jb g m b e n s c1 (σk.write o1 s1) w') : StepsPost w0 L ws xj xr xn jb g m b e n s (σ.two o1 s1 o2 s2) (.returned (.int .i64 c1)) w' := by
  refine two_of hf ?_
  rcases h with ⟨_, rfl⟩ | ⟨h, _⟩ | ⟨h, _⟩
  · have : σk.step o1 s1 = (σk.write o1 s1, c1) := by unfold DS.step; rw [hc, if_pos hz]
    unfold DS.two
    rw [this, if_pos hz]
  · cases h
  · cases h
theorem two_sync0 (h : TwoAt σ o1 s1 o2 s2 0 σk) (hc : σk.writeE o1 s1 = 0) (hc2 : (σk.write o1 s1).syncE = c2) (hz : ¬ c2 = 0) (hf : StepsAt w0 L ws xj xr xn jb g m b e n s c2 (σk.write o1 s1).sync w') : StepsPost w0 L ws xj xr xn jb g m b e n s (σ.two o1 s1 o2 s2) (.returned (.int .i64 c2)) w' := by
  refine two_of hf ?_
  rcases h with ⟨_, rfl⟩ | ⟨h, _⟩ | ⟨h, _⟩
  · have : σk.step o1 s1 = ((σk.write o1 s1).sync, c2) := by unfold DS.step; rw [hc, if_neg (by simp), hc2]
    unfold DS.two
    rw [this, if_pos hz]
  · cases h
  · cases h
theorem two_go0 (h : TwoAt σ o1 s1 o2 s2 0 σk) (hc : σk.writeE o1 s1 = 0) (hc2 : (σk.write o1 s1).syncE = 0) : TwoAt σ o1 s1 o2 s2 1 (σk.write o1 s1).sync := by
  rcases h with ⟨_, rfl⟩ | ⟨h, _⟩ | ⟨h, _⟩
  · have : σk.step o1 s1 = ((σk.write o1 s1).sync, 0) := by unfold DS.step; rw [hc, if_neg (by simp), hc2]
    exact .inr (.inl ⟨rfl, by rw [this], by rw [this]⟩)
  · cases h
  · cases h
theorem two_fail1 (h : TwoAt σ o1 s1 o2 s2 1 σk) (hc : σk.writeE o2 s2 = c1) (hz : ¬ c1 = 0) (hf : StepsAt w0 L ws xj xr xn jb g m b e n s c1 (σk.write o2 s2) w') : StepsPost w0 L ws xj xr xn jb g m b e n s (σ.two o1 s1 o2 s2) (.returned (.int .i64 c1)) w' := by
  refine two_of hf ?_
  rcases h with ⟨h, _⟩ | ⟨_, h1, rfl⟩ | ⟨h, _⟩
  · cases h
  · unfold DS.two
    rw [if_neg (by simp [h1])]
    unfold DS.step at hc ⊢
    rw [hc, if_pos hz]
  · cases h
theorem two_sync1 (h : TwoAt σ o1 s1 o2 s2 1 σk) (hc : σk.writeE o2 s2 = 0) (hc2 : (σk.write o2 s2).syncE = c2) (_hz : ¬ c2 = 0) (hf : StepsAt w0 L ws xj xr xn jb g m b e n s c2 (σk.write o2 s2).sync w') : StepsPost w0 L ws xj xr xn jb g m b e n s (σ.two o1 s1 o2 s2) (.returned (.int .i64 c2)) w' := by
  refine two_of hf ?_
  rcases h with ⟨h, _⟩ | ⟨_, h1, rfl⟩ | ⟨h, _⟩
  · cases h
  · have : (σ.step o1 s1).1.step o2 s2 = (((σ.step o1 s1).1.write o2 s2).sync, c2) := by
      rw [step_ok hc, hc2]
    unfold DS.two
    rw [if_neg (by simp [h1]), this]
  · cases h
theorem two_go1 (h : TwoAt σ o1 s1 o2 s2 1 σk) (hc : σk.writeE o2 s2 = 0) (hc2 : (σk.write o2 s2).syncE = 0) : TwoAt σ o1 s1 o2 s2 2 (σk.write o2 s2).sync := by
  rcases h with ⟨h, _⟩ | ⟨_, h1, rfl⟩ | ⟨h, _⟩
  · cases h
  · have : (σ.step o1 s1).1.step o2 s2 = (((σ.step o1 s1).1.write o2 s2).sync, 0) := by
      rw [step_ok hc, hc2]
    exact .inr (.inr ⟨rfl, h1, by rw [this], by rw [this]⟩)
  · cases h
theorem two_end (h : TwoAt σ o1 s1 o2 s2 2 σk) (hf : StepsAt w0 L ws xj xr xn jb g m b e n s 0 σk w') : StepsPost w0 L ws xj xr xn jb g m b e n s (σ.two o1 s1 o2 s2) (.returned (.int .i64 0)) w' := by
  refine two_of hf ?_
  rcases h with ⟨h, _⟩ | ⟨h, _⟩ | ⟨_, h1, h2, rfl⟩
  · cases h
  · cases h
  · unfold DS.two
    rw [if_neg (by simp [h1]), ← h2]
end

set_option maxRecDepth 100000 in
set_option maxHeartbeats 4000000 in
theorem steps_any (hs : s.size ≤ 16777216) (hn0 : 64 ≤ n) (hn1 : n ≤ 100000000) (hn : σ.n < 50000)
    (h : At w0 w (bl ws 46 #[.func (.func 63) #[] #[.pointer (some ⟨xj, 0, none⟩), .pointer (some ⟨xr, 0, none⟩)], .func (.func 65) #[] #[.pointer (some ⟨xj, 0, none⟩), .pointer (some ⟨xn, 0, none⟩)]] ::
      bl xj 65 #[.pointer (some ⟨jb, 0, none⟩)] :: bl xr 9 #[.string s] :: bl xn 3 #[.int .i64 n] :: jn jb g m b e false :: dk g σ :: L)) :
    Calls Try.prog 62 #[.pointer (some ⟨jb, 0, none⟩), .slice (some ⟨ws, 0, none⟩) 2 2] w fun r w' => r = .returned (.int .i64 (σ.two e (be 4 s.size ++ s.data.toList) 0 (be 8 (n - 64).toNat)).2) ∧
      At w0 w' (bl ws 46 #[.func (.func 63) #[] #[.pointer (some ⟨xj, 0, none⟩), .pointer (some ⟨xr, 0, none⟩)], .func (.func 65) #[] #[.pointer (some ⟨xj, 0, none⟩), .pointer (some ⟨xn, 0, none⟩)]] ::
        bl xj 65 #[.pointer (some ⟨jb, 0, none⟩)] :: bl xr 9 #[.string s] :: bl xn 3 #[.int .i64 n] :: jn jb g m b e ((σ.two e (be 4 s.size ++ s.data.toList) 0 (be 8 (n - 64).toNat)).2 != 0) :: dk g (σ.two e (be 4 s.size ++ s.data.toList) 0 (be 8 (n - 64).toNat)).1 :: L) := by
  have hmf : ∀ (fn : Fn) (first cap : Array Value) (w : World), (Instr.makeFunc fn first cap).run Try.prog w = .ok (.func fn first cap) w := fun _ _ _ _ => rfl
  have H0 : Hid (At w0 ((w.alloc (.cells #[.pointer (some ⟨jb, 0, none⟩)] 65)).alloc (.cells #[.int .i64 0] 44)) (StL (w.heap.size + 1) w.heap.size ws xj xr xn jb g 0 m b e n s false σ L)) := by
    have := at_alloc (at_alloc h 65 #[.pointer (some ⟨jb, 0, none⟩)]) 44 #[.int .i64 0]
    rw [World.size_alloc] at this
    exact this
  clear h
  obtain ⟨b0, hb0⟩ : ∃ b0, w.heap.size = b0 := ⟨_, rfl⟩
  rw [hb0] at H0
  go_enter_defers Try.func62, Try.ntmps62
  go_wp2_with fail
  go_loopw [10] (fun i wr => ∃ (k : Nat) (σk : DS), k ≤ 2 ∧ i = .int .i64 (k : Int) ∧ Hid (At w0 wr (StL (b0 + 1) b0 ws xj xr xn jb g 0 m b e n s false σk L)) ∧ Hid (σk.n ≤ σ.n + 2 * k) ∧ Hid (TwoAt σ e (be 4 s.size ++ s.data.toList) 0 (be 8 (n - 64).toNat) k σk)) (fun i _ => 2 - (intOf i).toNat)
  case atStart => exact ⟨0, σ, by omega, rfl, H0, Nat.le_refl _, .inl ⟨rfl, rfl⟩⟩
  case round =>
    obtain ⟨k, σk, hk, rfl, HA, HNK, HT⟩ := hrel
    have hcase : k = 0 ∨ k = 1 ∨ k = 2 := by omega
    have HNN := Lib.hid hn
    rcases hcase with h0 | h0 | h0
    · subst h0
      have y1 := HA.out.cell 2 rfl 0 _ rfl
      have hkn : σk.n < 100000 := by have := HNK.out; have := HNN.out; omega
      go_wp2_with fail
      refine (ap1_any s hs HA.out 3 4 6 7 rfl rfl rfl rfl (by decide) (by decide) (by decide) hkn).mono ?_
      rintro r w1 ⟨rfl, h1⟩
      obtain ⟨c1, hc1⟩ : ∃ c1, σk.writeE e (be 4 s.size ++ s.data.toList) = c1 := ⟨_, rfl⟩
      rw [hc1]
      have HC1 := Lib.hid hc1
      have z1 := h1.cell 0 rfl 0 _ rfl
      have f1 : w1.frozen? ⟨b0 + 1, 0, none⟩ = false := frozen_of_row w1 _ _ _ _ (h1.block 0 rfl)
      have H2 : Hid (At w0 (w1.setCell ⟨b0 + 1, 0, none⟩ (.int .i64 c1)) (StL (b0 + 1) b0 ws xj xr xn jb g c1 m b e n s false (σk.write e (be 4 s.size ++ s.data.toList)) L)) := at_set h1 0 rfl 0 (.int .i64 c1) #[.int .i64 c1] rfl
      clear h1 hc1
      by_cases hz1 : c1 = 0
      · subst hz1
        have z2 := H2.out.cell 1 rfl 0 _ rfl
        have z3 := H2.out.cell 6 rfl 0 _ rfl
        go_wp2_with fail
        have hw3 := H2.out
        generalize w1.setCell ⟨b0 + 1, 0, none⟩ (.int .i64 0) = w3 at *
        refine (at_sync H2.out 7 rfl (by have := DS.write_n σk e (be 4 s.size ++ s.data.toList); have := HNK.out; omega)).mono ?_
        rintro r w4 ⟨rfl, h4⟩
        obtain ⟨c2, hc2⟩ : ∃ c2, (σk.write e (be 4 s.size ++ s.data.toList)).syncE = c2 := ⟨_, rfl⟩
        rw [hc2]
        have HC2 := Lib.hid hc2
        have z4 := h4.cell 0 rfl 0 _ rfl
        have f4 : w4.frozen? ⟨b0 + 1, 0, none⟩ = false := frozen_of_row w4 _ _ _ _ (h4.block 0 rfl)
        have H5 : Hid (At w0 (w4.setCell ⟨b0 + 1, 0, none⟩ (.int .i64 c2)) (StL (b0 + 1) b0 ws xj xr xn jb g c2 m b e n s false (σk.write e (be 4 s.size ++ s.data.toList)).sync L)) := at_set h4 0 rfl 0 (.int .i64 c2) #[.int .i64 c2] rfl
        clear h4 hc2
        by_cases hz2 : c2 = 0
        · subst hz2
          go_wp2_with fail
          exact ⟨⟨1, _, by omega, by go_num, H5, by have := DS.write_n σk e (be 4 s.size ++ s.data.toList); have := DS.sync_n (σk.write e (be 4 s.size ++ s.data.toList)); have := HNK.out; exact (show _ ≤ _ by omega), two_go0 HT.out HC1.out HC2.out⟩, by simp [intOf]⟩
        · have H6 : Hid (At w0 ((w4.setCell ⟨b0 + 1, 0, none⟩ (.int .i64 c2)).setCell ⟨b0 + 1, 0, none⟩ (.int .i64 c2)) (StL (b0 + 1) b0 ws xj xr xn jb g c2 m b e n s false (σk.write e (be 4 s.size ++ s.data.toList)).sync L)) := at_set H5.out 0 rfl 0 (.int .i64 c2) #[.int .i64 c2] rfl
          go_wp2_with fail
          refine leaves_cons (f := 69) (args := #[.pointer (some ⟨b0, 0, none⟩), .pointer (some ⟨b0 + 1, 0, none⟩)]) (by simp) (by simp [go_sem]) ?_
          refine (mark_any _ b0 jb (b0 + 1) c2 .returning (H6.out.cell 1 rfl 0 _ rfl) (H6.out.cell 6 rfl 4 _ rfl) (frozen_of_row _ jb 4 _ _ (H6.out.block 6 rfl)) (H6.out.cell 0 rfl 0 _ rfl)).mono ?_
          rintro e1 u1 w9 ⟨rfl, rfl, rfl⟩
          have hce := (at_set H6.out 6 rfl 4 (.bool (c2 != 0)) _ rfl).drew.cell 0 rfl 0 _ rfl
          have hfin := steps_close H6.out
          refine ⟨.int .i64 c2, ?_, ?_⟩
          · simp [results, Try.results62, go_sem, hce]
          exact two_sync0 HT.out HC1.out HC2.out hz2 hfin
      · have H3 : Hid (At w0 ((w1.setCell ⟨b0 + 1, 0, none⟩ (.int .i64 c1)).setCell ⟨b0 + 1, 0, none⟩ (.int .i64 c1)) (StL (b0 + 1) b0 ws xj xr xn jb g c1 m b e n s false (σk.write e (be 4 s.size ++ s.data.toList)) L)) := at_set H2.out 0 rfl 0 (.int .i64 c1) #[.int .i64 c1] rfl
        go_wp2_with fail
        refine leaves_cons (f := 69) (args := #[.pointer (some ⟨b0, 0, none⟩), .pointer (some ⟨b0 + 1, 0, none⟩)]) (by simp) (by simp [go_sem]) ?_
        refine (mark_any _ b0 jb (b0 + 1) c1 .returning (H3.out.cell 1 rfl 0 _ rfl) (H3.out.cell 6 rfl 4 _ rfl) (frozen_of_row _ jb 4 _ _ (H3.out.block 6 rfl)) (H3.out.cell 0 rfl 0 _ rfl)).mono ?_
        rintro e1 u1 w9 ⟨rfl, rfl, rfl⟩
        have hce := (at_set H3.out 6 rfl 4 (.bool (c1 != 0)) _ rfl).drew.cell 0 rfl 0 _ rfl
        have hfin := steps_close H3.out
        refine ⟨.int .i64 c1, ?_, ?_⟩
        · simp [results, Try.results62, go_sem, hce]
        exact two_fail0 HT.out HC1.out hz1 hfin
    · subst h0
      have y1 := HA.out.cell 2 rfl 1 _ rfl
      have hkn : σk.n < 100000 := by have := HNK.out; have := HNN.out; omega
      go_wp2_with fail
      refine (ap2_any n hn0 hn1 HA.out 3 5 6 7 rfl rfl rfl rfl (by decide) (by decide) (by decide) hkn).mono ?_
      rintro r w1 ⟨rfl, h1⟩
      obtain ⟨c1, hc1⟩ : ∃ c1, σk.writeE 0 (be 8 (n - 64).toNat) = c1 := ⟨_, rfl⟩
      rw [hc1]
      have HC1 := Lib.hid hc1
      have z1 := h1.cell 0 rfl 0 _ rfl
      have f1 : w1.frozen? ⟨b0 + 1, 0, none⟩ = false := frozen_of_row w1 _ _ _ _ (h1.block 0 rfl)
      have H2 : Hid (At w0 (w1.setCell ⟨b0 + 1, 0, none⟩ (.int .i64 c1)) (StL (b0 + 1) b0 ws xj xr xn jb g c1 m b e n s false (σk.write 0 (be 8 (n - 64).toNat)) L)) := at_set h1 0 rfl 0 (.int .i64 c1) #[.int .i64 c1] rfl
      clear h1 hc1
      by_cases hz1 : c1 = 0
      · subst hz1
        have z2 := H2.out.cell 1 rfl 0 _ rfl
        have z3 := H2.out.cell 6 rfl 0 _ rfl
        go_wp2_with fail
        have hw3 := H2.out
        generalize w1.setCell ⟨b0 + 1, 0, none⟩ (.int .i64 0) = w3 at *
        refine (at_sync H2.out 7 rfl (by have := DS.write_n σk 0 (be 8 (n - 64).toNat); have := HNK.out; omega)).mono ?_
        rintro r w4 ⟨rfl, h4⟩
        obtain ⟨c2, hc2⟩ : ∃ c2, (σk.write 0 (be 8 (n - 64).toNat)).syncE = c2 := ⟨_, rfl⟩
        rw [hc2]
        have HC2 := Lib.hid hc2
        have z4 := h4.cell 0 rfl 0 _ rfl
        have f4 : w4.frozen? ⟨b0 + 1, 0, none⟩ = false := frozen_of_row w4 _ _ _ _ (h4.block 0 rfl)
        have H5 : Hid (At w0 (w4.setCell ⟨b0 + 1, 0, none⟩ (.int .i64 c2)) (StL (b0 + 1) b0 ws xj xr xn jb g c2 m b e n s false (σk.write 0 (be 8 (n - 64).toNat)).sync L)) := at_set h4 0 rfl 0 (.int .i64 c2) #[.int .i64 c2] rfl
        clear h4 hc2
        by_cases hz2 : c2 = 0
        · subst hz2
          go_wp2_with fail
          exact ⟨⟨2, _, by omega, by go_num, H5, by have := DS.write_n σk 0 (be 8 (n - 64).toNat); have := DS.sync_n (σk.write 0 (be 8 (n - 64).toNat)); have := HNK.out; exact (show _ ≤ _ by omega), two_go1 HT.out HC1.out HC2.out⟩, by simp [intOf]⟩
        · have H6 : Hid (At w0 ((w4.setCell ⟨b0 + 1, 0, none⟩ (.int .i64 c2)).setCell ⟨b0 + 1, 0, none⟩ (.int .i64 c2)) (StL (b0 + 1) b0 ws xj xr xn jb g c2 m b e n s false (σk.write 0 (be 8 (n - 64).toNat)).sync L)) := at_set H5.out 0 rfl 0 (.int .i64 c2) #[.int .i64 c2] rfl
          go_wp2_with fail
          refine leaves_cons (f := 69) (args := #[.pointer (some ⟨b0, 0, none⟩), .pointer (some ⟨b0 + 1, 0, none⟩)]) (by simp) (by simp [go_sem]) ?_
          refine (mark_any _ b0 jb (b0 + 1) c2 .returning (H6.out.cell 1 rfl 0 _ rfl) (H6.out.cell 6 rfl 4 _ rfl) (frozen_of_row _ jb 4 _ _ (H6.out.block 6 rfl)) (H6.out.cell 0 rfl 0 _ rfl)).mono ?_
          rintro e1 u1 w9 ⟨rfl, rfl, rfl⟩
          have hce := (at_set H6.out 6 rfl 4 (.bool (c2 != 0)) _ rfl).drew.cell 0 rfl 0 _ rfl
          have hfin := steps_close H6.out
          refine ⟨.int .i64 c2, ?_, ?_⟩
          · simp [results, Try.results62, go_sem, hce]
          exact two_sync1 HT.out HC1.out HC2.out hz2 hfin
      · have H3 : Hid (At w0 ((w1.setCell ⟨b0 + 1, 0, none⟩ (.int .i64 c1)).setCell ⟨b0 + 1, 0, none⟩ (.int .i64 c1)) (StL (b0 + 1) b0 ws xj xr xn jb g c1 m b e n s false (σk.write 0 (be 8 (n - 64).toNat)) L)) := at_set H2.out 0 rfl 0 (.int .i64 c1) #[.int .i64 c1] rfl
        go_wp2_with fail
        refine leaves_cons (f := 69) (args := #[.pointer (some ⟨b0, 0, none⟩), .pointer (some ⟨b0 + 1, 0, none⟩)]) (by simp) (by simp [go_sem]) ?_
        refine (mark_any _ b0 jb (b0 + 1) c1 .returning (H3.out.cell 1 rfl 0 _ rfl) (H3.out.cell 6 rfl 4 _ rfl) (frozen_of_row _ jb 4 _ _ (H3.out.block 6 rfl)) (H3.out.cell 0 rfl 0 _ rfl)).mono ?_
        rintro e1 u1 w9 ⟨rfl, rfl, rfl⟩
        have hce := (at_set H3.out 6 rfl 4 (.bool (c1 != 0)) _ rfl).drew.cell 0 rfl 0 _ rfl
        have hfin := steps_close H3.out
        refine ⟨.int .i64 c1, ?_, ?_⟩
        · simp [results, Try.results62, go_sem, hce]
        exact two_fail1 HT.out HC1.out hz1 hfin
    · subst h0
      have z1 := HA.out.cell 0 rfl 0 _ rfl
      have f1 : wr.frozen? ⟨b0 + 1, 0, none⟩ = false := frozen_of_row wr _ _ _ _ (HA.out.block 0 rfl)
      have H3 : Hid (At w0 (wr.setCell ⟨b0 + 1, 0, none⟩ (.int .i64 0)) (StL (b0 + 1) b0 ws xj xr xn jb g 0 m b e n s false σk L)) := at_set HA.out 0 rfl 0 (.int .i64 0) #[.int .i64 0] rfl
      go_wp2_with fail
      refine leaves_cons (f := 69) (args := #[.pointer (some ⟨b0, 0, none⟩), .pointer (some ⟨b0 + 1, 0, none⟩)]) (by simp) (by simp [go_sem]) ?_
      refine (mark_any _ b0 jb (b0 + 1) 0 .returning (H3.out.cell 1 rfl 0 _ rfl) (H3.out.cell 6 rfl 4 _ rfl) (frozen_of_row _ jb 4 _ _ (H3.out.block 6 rfl)) (H3.out.cell 0 rfl 0 _ rfl)).mono ?_
      rintro e1 u1 w9 ⟨rfl, rfl, rfl⟩
      have hce := H3.out.cell 0 rfl 0 _ rfl
      have hfin := steps_close H3.out
      refine ⟨.int .i64 0, ?_, ?_⟩
      · simp [results, Try.results62, go_sem, hce]
      exact two_end HT.out hfin
end
end Go.Proofs.Ytnfmcmjfpbmloaa
