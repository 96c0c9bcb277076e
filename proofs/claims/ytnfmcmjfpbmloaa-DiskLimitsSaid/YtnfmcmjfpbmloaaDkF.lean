/-
  What a write leaves of the disk in memory: the contents stored, one piece more.
-/
import Derived.Test.YtnfmcmjfpbmloaaDkE
namespace Go.Proofs.Ytnfmcmjfpbmloaa
open Go.RowKit
section
variable {w : World} {g : Nat} {σ : DS} {S : Nat → Prop} {vn vs vp : Value} {l : Int} {xs : List Value}

def strLen : Value → Nat | .string s => s.size | _ => 0

theorem turns_bytes (w : World) (e : TypeId) (s : ByteArray) (S : Nat → Prop) : Turns S w (Lib.bytesWorld w e s) :=
  ⟨by simp [Lib.bytesWorld, World.freeze]; rfl, by simp [Lib.bytesWorld, World.freeze], by simp [Lib.bytesWorld, World.freeze]; rfl, by rw [Lib.bytesWorld_size]; omega, fun k hk _ => Lib.bytesWorld_at_old w e s k hk⟩

/-- The contents have been written; they are stored. -/
theorem put_close (d : DiskAt w g σ S vn vs vp l xs) {w1 w2 : World} {v2 : Value} {c : List UInt8} (ht : Turns No w w1) (h1 : w2.ownsRow 0 5 1 v2 c.length (bys c)) (h2 : w1.grownBy w2 vn.ownBlock) (h3 : v2.ownBlock = vn.ownBlock ∨ v2.ownBlock = some w1.heap.size) (hc : c.length ≤ 16777216) :
    w2.heap[g]? = some (.cells #[vn, vs, vp, .int .i64 (σ.n : Int), .bool σ.lim, .int .i64 l] 62 (0, 0)) ∧
    DiskAt (w2.setCell ⟨g, 0, none⟩ v2) g { σ with now := c } (fun k => S k ∨ v2.ownBlock = some k) v2 vs vp l xs ∧ Turns S w (w2.setCell ⟨g, 0, none⟩ v2) ∧ (∀ k, (S k ∨ v2.ownBlock = some k) → S k ∨ w.heap.size ≤ k) := by
  have ht2 : Turns (fun k => vn.ownBlock = some k) w w2 := Turns.grown ⟨ht.os, ht.tape, ht.output, ht.size, fun k hk _ => ht.block k hk id⟩ h2 fun k hk => .inl hk
  have hb := d.far ht2 d.neN
  have hT : Turns S w w2 := ht2.mono fun i _ h => d.inN i h
  have ht3 := turns_one w2 g 0 v2
  have hsz : w.heap.size ≤ w2.heap.size := ht2.size
  have hS' : ∀ k, (S k ∨ v2.ownBlock = some k) → S k ∨ w.heap.size ≤ k := by
    rintro k (hk | hk)
    · exact .inl hk
    · rcases h3 with h3 | h3
      · exact .inl (d.inN k (h3.symm.trans hk))
      · rw [hk] at h3
        injection h3 with h3
        have := ht.size
        exact .inr (by omega)
  have v2g : ∀ k, v2.ownBlock = some k → ¬ k = g := by
    rintro k hk rfl
    rcases h3 with h3 | h3
    · exact d.neN (h3.symm.trans hk)
    · rw [hk] at h3
      injection h3 with h3
      have := lt_of_block d.blk
      have := ht.size
      omega
  have v2n : ∀ k, k < w.heap.size → v2.ownBlock = some k → vn.ownBlock = some k := by
    intro k hk e
    rcases h3 with h3 | h3
    · exact h3.symm.trans e
    · rw [e] at h3
      injection h3 with h3
      have := ht.size
      omega
  refine ⟨hb, ⟨?_, d.left, ht3.own h1 v2g, ?_, ?_, ?_, ?_, .inl d.inG, fun k hk => .inr hk, fun k hk => .inl (d.inS k hk), fun k hk => .inl (d.inP k hk), ?_, ?_⟩, ?_, hS'⟩
  · rw [heap_setCell_same w2 g 0 _ _ v2 hb]; simp
  · refine ht3.own (ht2.own d.syn ?_) ?_
    · intro k hk e
      rcases d.ne with h | h
      · rw [h] at e; cases e
      · exact h (e.trans hk.symm)
    · rintro k hk rfl; exact d.neS hk
  · refine ht3.own (ht2.own d.pcs ?_) ?_
    · intro k hk e
      rcases d.now.2 with ⟨rfl, _⟩ | ⟨g', cap, cur, rfl, _, hh, _⟩
      · simp [Value.ownBlock] at e
      · have e' : g' = k := by simpa [Value.ownBlock] using e
        subst e'
        exact own_ne d.pcs hh (by decide) hk
    · rintro k hk rfl; exact d.neP hk
  · have t1 : PcsIn w2 S vn.ownBlock vs.ownBlock σ.pcs xs := d.txt.step ht2 fun k _ h1 h2 h3 => ⟨fun e => h2 e.symm, h1, h2, h3⟩
    have key : ∀ {ps : List (Nat × List UInt8)} {xs : List Value}, PcsIn w2 S vn.ownBlock vs.ownBlock ps xs → PcsIn (w2.setCell ⟨g, 0, none⟩ v2) (fun k => S k ∨ v2.ownBlock = some k) v2.ownBlock vs.ownBlock ps xs := by
      intro ps
      induction ps with
      | nil => intro xs h; exact h
      | cons p ps ih =>
        rintro xs ⟨v, ys, bk, e1, e2, e3, e4, e5, e6⟩
        refine ⟨v, ys, bk, e1, e2.turns ht3 ?_, .inl e3, fun e => e4 (v2n bk (d.lt bk e3) e.symm).symm, e5, ih e6⟩
        rintro rfl
        obtain ⟨_, _, _, _, hh, _⟩ := e2
        rw [hh] at hb
        injection hb with hb'
        injection hb' with _ ht'
        exact absurd ht' (by decide)
    exact key t1
  · rcases h3 with h3 | h3
    · rw [h3]; exact d.ne
    · refine .inr fun e => ?_
      have := own_lt d.syn _ (e.symm.trans h3)
      have := ht.size
      omega
  · rintro k (hk | hk)
    · exact Nat.lt_of_lt_of_le (d.lt k hk) (Nat.le_trans hsz ht3.size)
    · exact Nat.lt_of_lt_of_le (own_lt h1 k hk) ht3.size
  · exact ⟨hc, d.ok.syn, d.ok.pcs, d.ok.many, d.ok.left⟩
  · exact hT.trans ht3 fun i hi => .inl (by subst hi; exact d.inG)


/-- One piece more. -/
theorem piece_close (d : DiskAt w g σ S vn vs vp l xs) {w1 w2 : World} {v : Value} {off bk : Nat} {t : List UInt8} {e : Ending} (ht : Turns No w w1) (hv : TextIn w1 5 v bk t) (hbk : w.heap.size ≤ bk)
    (h : AddPost w1 g 2 vp (σ.pcs.length + 1) (xs ++ [.int .i64 (off : Int), v]) e w2) (hok : ({ σ with pcs := σ.pcs ++ [(off, t)] } : DS).ok) :
    ∃ vp' S', DiskAt w2 g { σ with pcs := σ.pcs ++ [(off, t)] } S' vn vs vp' l (xs ++ [.int .i64 (off : Int), v]) ∧ Turns S w w2 ∧ (∀ k, S' k → S k ∨ w.heap.size ≤ k) := by
  obtain ⟨_, vp', w3, rfl, h1, h2, h3⟩ := h
  have ht3 : Turns (fun k => vp.ownBlock = some k) w w3 := Turns.trans ⟨ht.os, ht.tape, ht.output, ht.size, fun k hk _ => ht.block k hk id⟩ h2 fun i hi => .inl hi
  have hb := d.far ht3 d.neP
  have ht4 := turns_one w3 g 2 vp'
  have hsz : w.heap.size ≤ w3.heap.size := ht3.size
  have hgl := lt_of_block d.blk
  have hp' : ∀ k, vp'.ownBlock = some k → (vp.ownBlock = some k ∨ w.heap.size ≤ k) := by
    intro k hk
    rcases h3 with h3 | ⟨k', h3, hle⟩
    · exact .inl (h3.symm.trans hk)
    · rw [hk] at h3
      injection h3 with h3
      have := ht.size
      exact .inr (by omega)
  have vpt : ∀ k, vn.ownBlock = some k → ¬ vp.ownBlock = some k := by
    intro k e hk
    rcases d.now.2 with ⟨rfl, _⟩ | ⟨g', cap, cur, rfl, _, hh, _⟩
    · simp [Value.ownBlock] at e
    · have e' : g' = k := by simpa [Value.ownBlock] using e
      subst e'
      exact own_ne d.pcs hh (by decide) hk
  have vst : ∀ k, vs.ownBlock = some k → ¬ vp.ownBlock = some k := by
    intro k e hk
    rcases d.syn.2 with ⟨rfl, _⟩ | ⟨g', cap, cur, rfl, _, hh, _⟩
    · simp [Value.ownBlock] at e
    · have e' : g' = k := by simpa [Value.ownBlock] using e
      subst e'
      exact own_ne d.pcs hh (by decide) hk
  have bkp : ∀ k, vp.ownBlock = some k → k < w.heap.size := fun k hk => own_lt d.pcs k hk
  refine ⟨vp', fun k => S k ∨ vp'.ownBlock = some k ∨ k = bk, ⟨?_, d.left, ?_, ?_, ?_, ?_, d.ne, .inl d.inG, fun k hk => .inl (d.inN k hk), fun k hk => .inl (d.inS k hk), fun k hk => .inr (.inl hk), ?_, hok⟩, ?_, ?_⟩
  · rw [heap_setCell_same w3 g 2 _ _ vp' hb]; simp
  · exact ht4.own (ht3.own d.now vpt) (by rintro k hk rfl; exact d.neN hk)
  · exact ht4.own (ht3.own d.syn vst) (by rintro k hk rfl; exact d.neS hk)
  · refine ht4.own ?_ ?_
    · simpa using h1
    · rintro k hk rfl
      rcases hp' k hk with h | h
      · exact d.neP h
      · omega
  · have keep : ∀ {ps : List (Nat × List UInt8)} {xs : List Value}, PcsIn w S vn.ownBlock vs.ownBlock ps xs → PcsIn (w3.setCell ⟨g, 2, none⟩ vp') (fun k => S k ∨ vp'.ownBlock = some k ∨ k = bk) vn.ownBlock vs.ownBlock ps xs := by
      intro ps
      induction ps with
      | nil => intro xs h; exact h
      | cons p ps ih =>
        rintro xs ⟨v, ys, b, e1, e2, e3, e4, e5, e6⟩
        refine ⟨v, ys, b, e1, (e2.turns ht3 ?_).turns ht4 ?_, .inl e3, e4, e5, ih e6⟩
        · intro hk
          obtain ⟨_, _, _, _, hh, _⟩ := e2
          exact own_ne d.pcs hh (by decide) hk
        · rintro rfl
          obtain ⟨_, _, _, _, hh, _⟩ := e2
          have hb' := d.blk
          rw [hh] at hb'
          injection hb' with hb'
          injection hb' with _ ht'
          exact absurd ht' (by decide)
    refine PcsIn.append ?_ (keep d.txt)
    refine ⟨v, [], bk, rfl, (hv.turns h2 ?_).turns ht4 ?_, .inr (.inr rfl), ?_, ?_, rfl⟩
    · intro hk
      have := bkp _ hk
      omega
    · rintro rfl; omega
    · intro e
      have := own_lt d.now _ e.symm
      omega
    · intro e
      have := own_lt d.syn _ e.symm
      omega
  · rintro k (hk | hk | rfl)
    · exact Nat.lt_of_lt_of_le (d.lt k hk) (Nat.le_trans hsz ht4.size)
    · exact Nat.lt_of_lt_of_le (own_lt h1 k hk) ht4.size
    · exact Nat.lt_of_lt_of_le hv.lt (Nat.le_trans h2.size ht4.size)
  · exact (ht3.mono fun i _ h => d.inP i h).trans ht4 fun i hi => .inl (by subst hi; exact d.inG)
  · rintro k (hk | hk | rfl)
    · exact .inl hk
    · exact (hp' k hk).imp (d.inP k) id
    · exact .inr hbk

end
end Go.Proofs.Ytnfmcmjfpbmloaa
