/-
  The contract of Sync.
-/
import Derived.Test.YtnfmcmjfpbmloaaDkD
namespace Go.Proofs.Ytnfmcmjfpbmloaa
open Go.RowKit

theorem grownBy_turns {w w' : World} {row : Option Nat} (hg : w.grownBy w' row) : Turns (fun k => row = some k) w w' := (Turns.refl _ w).grown hg fun _ h => .inl h

theorem ownBlock_slice (A : Option Addr) (n c m d : Nat) : (Value.slice A n c).ownBlock = (Value.slice A m d).ownBlock := by cases A <;> rfl

section
variable {w : World} {g : Nat} {σ : DS} {S : Nat → Prop} {vn vs vp : Value} {l : Int} {xs : List Value}

theorem DiskAt.far (d : DiskAt w g σ S vn vs vp l xs) {w' : World} {T : Nat → Prop} (ht : Turns T w w') (hT : ¬ T g) : w'.heap[g]? = some (.cells #[vn, vs, vp, .int .i64 (σ.n : Int), .bool σ.lim, .int .i64 l] 62 (0, 0)) := ht.is d.blk hT

theorem DiskAt.neN (d : DiskAt w g σ S vn vs vp l xs) : vn.ownBlock ≠ some g := own_ne d.now d.blk (by decide)
theorem DiskAt.neS (d : DiskAt w g σ S vn vs vp l xs) : vs.ownBlock ≠ some g := own_ne d.syn d.blk (by decide)
theorem DiskAt.neP (d : DiskAt w g σ S vn vs vp l xs) : vp.ownBlock ≠ some g := own_ne d.pcs d.blk (by decide)

/-- Sync's end. -/
theorem sync_close (d : DiskAt w g σ S vn vs vp l xs) {v1 : Value} {w2 : World} {n : Nat} (h1 : w2.ownsRow 0 5 1 v1 n (bys σ.now)) (hn : n = σ.now.length) (h2 : w.grownBy w2 vs.ownBlock) (h3 : v1.ownBlock = vs.ownBlock ∨ v1.ownBlock = some w.heap.size) :
    Then w g S { σ with syn := σ.now, pcs := [] } ((w2.setCell ⟨g, 1, none⟩ v1).setCell ⟨g, 2, none⟩ (.slice none 0 0)) := by
  subst hn
  have ht : Turns (fun k => vs.ownBlock = some k) w w2 := grownBy_turns h2
  have hb := d.far ht d.neS
  have hT : Turns S w w2 := ht.mono fun i _ h => d.inS i h
  have e1 := heap_setCell_same _ g 2 _ _ (.slice none 0 0) (heap_setCell_same w2 g 1 _ _ v1 hb)
  have ht2 := turns_two w2 g 1 2 v1 (.slice none 0 0)
  have hsz : w.heap.size ≤ w2.heap.size := ht.size
  have v1g : ∀ k, v1.ownBlock = some k → ¬ k = g := by
    rintro k hk rfl
    rcases h3 with h3 | h3
    · exact d.neS (h3.symm.trans hk)
    · rw [hk] at h3
      injection h3 with h3
      have := lt_of_block d.blk
      omega
  refine ⟨fun k => S k ∨ v1.ownBlock = some k, ⟨vn, v1, .slice none 0 0, l, [], ⟨?_, d.left, ?_, ?_, ?_, ?_, ?_, .inl d.inG, fun k hk => .inl (d.inN k hk), fun k hk => .inr hk, ?_, ?_, ?_⟩⟩, ?_, ?_⟩
  · rw [e1]; simp
  · refine ht2.own (ht.own d.now ?_) ?_
    · intro k hk e
      rcases d.ne with h | h
      · rw [h] at hk; cases hk
      · exact h (hk.trans e.symm)
    · rintro k hk rfl; exact d.neN hk
  · exact ht2.own h1 v1g
  · exact World.ownsRow_nil _ _ _ _
  · rfl
  · by_cases hvn : vn.ownBlock = none
    · exact .inl hvn
    · refine .inr fun e => ?_
      rcases h3 with h3 | h3
      · rcases d.ne with h | h
        · exact hvn h
        · exact h (e.trans h3)
      · have := own_lt d.now _ (e.trans h3)
        omega
  · intro k hk; simp [Value.ownBlock] at hk
  · rintro k (hk | hk)
    · exact Nat.lt_of_lt_of_le (d.lt k hk) (Nat.le_trans hsz ht2.size)
    · exact Nat.lt_of_lt_of_le (own_lt h1 k hk) ht2.size
  · exact ⟨d.ok.now, d.ok.now, by simp, Nat.zero_le _, d.ok.left⟩
  · exact hT.trans ht2 fun i hi => .inl (by subst hi; exact d.inG)
  · rintro k (hk | hk)
    · exact .inl hk
    · rcases h3 with h3 | h3
      · exact .inl (d.inS k (h3.symm.trans hk))
      · rw [hk] at h3
        injection h3 with h3
        exact .inr (by omega)

theorem Then.after {w0 w1 w2 : World} {σ' : DS} {T : Nat → Prop} (h : Then w1 g S σ' w2) (ht : Turns T w0 w1) (hT : ∀ k, T k → S k) : Then w0 g S σ' w2 := by
  obtain ⟨S', h1, h2, h3⟩ := h
  exact ⟨S', h1, (ht.mono fun i _ h => hT i h).trans h2 fun i hi => .inl hi, fun k hk => (h3 k hk).imp id fun h => Nat.le_trans ht.size h⟩

set_option maxRecDepth 100000 in
set_option maxHeartbeats 400000 in
theorem sync_yes (d : DiskAt w g σ S vn vs vp l xs) (ho : σ.off = false) (hn : σ.n < 1000000) :
    Calls Try.prog 35 #[.pointer (some ⟨g, 0, none⟩)] w fun e w' => e = .returned (.int .i64 0) ∧ Then w g S { σ.tick with syn := σ.now, pcs := [] } w' := by
  obtain ⟨i0, hi, hz0, hz1, hz2⟩ := info_parts u8_info
  obtain ⟨An, cn, rfl, hcn⟩ := own_slice d.now
  obtain ⟨As, cs, rfl, hcs⟩ := own_slice d.syn
  have hg0 := lt_of_block d.blk
  have hnow := d.ok.now
  have HS := Lib.hid d.inG
  have HC := Lib.hid (call_yes d ho hn)
  clear d
  go_enter Try.func35, Try.ntmps35
  go_wp2_with (go_at_call 55; refine HC.out.mono ?_; rintro e w1 ⟨rfl, l1, HD1, HT1⟩)
  have c0 := HD1.out.cell 0
  have c1 := HD1.out.cell 1
  have f1 := HD1.out.frozen 1
  simp at c0 c1
  have now1 := Lib.hid HD1.out.now
  have syn1 := Lib.hid HD1.out.syn
  have mk : ∀ v1 w2, w2.ownsRow 0 5 1 v1 (0 + σ.now.length) ([] ++ bys σ.now) → World.grownBy w1.drew w2 (Value.slice As 0 cs).ownBlock → (v1.ownBlock = (Value.slice As 0 cs).ownBlock ∨ v1.ownBlock = some w1.drew.heap.size) →
    ∃ A1 cc1, v1 = .slice A1 σ.now.length cc1 ∧ (∃ u, w2.cell? ⟨g, 1, none⟩ = some u) ∧ w2.frozen? ⟨g, 1, none⟩ = false ∧ w2.cell? ⟨g, 2, none⟩ = some vp ∧ w2.frozen? ⟨g, 2, none⟩ = false ∧
      Hid (Then w g S { σ.tick with syn := σ.now, pcs := [] } ((w2.setCell ⟨g, 1, none⟩ v1).setCell ⟨g, 2, none⟩ (.slice none 0 0))) := by
    intro v1 w2 h1 h2 h3
    rw [ownBlock_slice As 0 cs σ.syn.length cs] at h2 h3
    have h2' : w1.grownBy w2 (Value.slice As σ.syn.length cs).ownBlock := ⟨h2.os, h2.tape, h2.output, h2.size, h2.block⟩
    have hb := HD1.out.far (grownBy_turns h2') HD1.out.neS
    obtain ⟨A1, cc1, rfl, _⟩ := own_slice h1
    refine ⟨A1, cc1, by rw [Nat.zero_add], ⟨_, cell_of_row w2 g 1 _ _ _ hb⟩, frozen_of_row w2 g 1 _ _ hb, ?_, frozen_of_row w2 g 2 _ _ hb, ?_⟩
    · rw [cell_of_row w2 g 2 _ _ _ hb]; simp
    · exact (sync_close HD1.out h1 (Nat.zero_add _) h2' h3).after HT1.out (fun k hk => by rw [hk]; exact HS.out)
  have Hmk := Lib.hid mk
  clear mk
  go_region_law (refine step_append_onto' _ rfl (.tmp 16) (.tmp 20) 56 rfl 5 i0 _ 1 1 Try.underlying56 hi hz0 hz1 hz2 rfl (by decide) (.slice As 0 cs) 0 [] rfl (own_none syn1.out) (.slice An σ.now.length cn) σ.now.length (bys σ.now) rfl (Reads.of_own now1.out) (bys_one _) (by simp only [maxLen]; omega) (by omega) ?_; intro v1 w2 hown1 hg1 hat1; obtain ⟨A1, cc1, hv1, ⟨u, hc1⟩, hf1, hc2, hf2, HP⟩ := Hmk.out v1 w2 hown1 hg1 hat1; subst hv1; clear hown1 hg1 hat1)
  all_goals
    go_wp2_with (go_at_call 57; refine (settle_any _ g 2 vp ?_ ?_).mono ?_)
    go_ret
    exact ⟨rfl, HP.out⟩

set_option maxHeartbeats 400000 in
theorem sync_no (d : DiskAt w g σ S vn vs vp l xs) (ho : σ.off = true) :
    Calls Try.prog 35 #[.pointer (some ⟨g, 0, none⟩)] w fun e w' => e = .returned (.int .i64 70) ∧ w = w' := by
  have HC := Lib.hid (call_no d ho)
  clear d
  go_enter Try.func35, Try.ntmps35
  go_wp2_with (go_at_call 55; refine HC.out.mono ?_; rintro e w1 ⟨rfl, rfl⟩)
  go_ret
  exact ⟨rfl, rfl⟩
end

theorem Then.same {w : World} {g : Nat} {S : Nat → Prop} {σ : DS} (h : IsDisk w g σ S) : Then w g S σ w := ⟨S, h, Turns.refl _ _, fun _ hk => .inl hk⟩

theorem sync_any {w : World} {g : Nat} {S : Nat → Prop} {σ : DS} (h : IsDisk w g σ S) (hn : σ.n < 1000000) :
    Calls Try.prog 35 #[.pointer (some ⟨g, 0, none⟩)] w fun e w' => e = .returned (.int .i64 σ.syncE) ∧ Then w g S σ.sync w' := by
  have h0 := h
  obtain ⟨vn, vs, vp, l, xs, d⟩ := h
  unfold DS.syncE DS.sync
  cases ho : σ.off with
  | false =>
    refine (sync_yes d ho hn).mono ?_
    rintro e w' ⟨rfl, h⟩
    exact ⟨rfl, h⟩
  | true =>
    refine (sync_no d ho).mono ?_
    rintro e w' ⟨rfl, rfl⟩
    exact ⟨rfl, Then.same h0⟩
end Go.Proofs.Ytnfmcmjfpbmloaa
