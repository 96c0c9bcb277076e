/-
  The disk of the program in memory: 'DiskAt', and the contracts of call and Sync over it.
-/
import Derived.Test.YtnfmcmjfpbmloaaDkC
namespace Go.Proofs.Ytnfmcmjfpbmloaa
open Go.RowKit

/-- The cells of a row of pieces, and each text in a block of S's, apart from those of the contents. -/
def PcsIn (w : World) (S : Nat → Prop) (a b : Option Nat) : List (Nat × List UInt8) → List Value → Prop
  | [], xs => xs = []
  | p :: ps, xs => ∃ v ys bk, xs = .int .i64 (p.1 : Int) :: v :: ys ∧ TextIn w 5 v bk p.2 ∧ S bk ∧ some bk ≠ a ∧ some bk ≠ b ∧ PcsIn w S a b ps ys

theorem PcsIn.step {w w' : World} {S S' T : Nat → Prop} {a b a' b' : Option Nat} (ht : Turns T w w') (hk : ∀ k, k < w.heap.size → S k → some k ≠ a → some k ≠ b → ¬ T k ∧ S' k ∧ some k ≠ a' ∧ some k ≠ b') :
    ∀ {ps : List (Nat × List UInt8)} {xs : List Value}, PcsIn w S a b ps xs → PcsIn w' S' a' b' ps xs
  | [], _, h => h
  | _ :: _, _, ⟨v, ys, bk, h1, h2, h3, h4, h5, h6⟩ => by
    obtain ⟨k1, k2, k3, k4⟩ := hk bk h2.lt h3 h4 h5
    exact ⟨v, ys, bk, h1, h2.turns ht k1, k2, k3, k4, PcsIn.step ht hk h6⟩

theorem PcsIn.append {w : World} {S : Nat → Prop} {a b : Option Nat} {qs : List (Nat × List UInt8)} {zs : List Value} (hq : PcsIn w S a b qs zs) :
    ∀ {ps : List (Nat × List UInt8)} {xs : List Value}, PcsIn w S a b ps xs → PcsIn w S a b (ps ++ qs) (xs ++ zs)
  | [], _, h => by rw [show _ = [] from h]; exact hq
  | _ :: _, _, ⟨v, ys, bk, h1, h2, h3, h4, h5, h6⟩ => ⟨v, ys ++ zs, bk, by rw [h1]; rfl, h2, h3, h4, h5, PcsIn.append hq h6⟩

theorem PcsIn.at_ {w : World} {S : Nat → Prop} {a b : Option Nat} : ∀ {ps : List (Nat × List UInt8)} {xs : List Value}, PcsIn w S a b ps xs → ∀ (k : Nat) (p : Nat × List UInt8), ps[k]? = some p →
    ∃ v bk, xs[2 * k]? = some (.int .i64 (p.1 : Int)) ∧ xs[2 * k + 1]? = some v ∧ TextIn w 5 v bk p.2 ∧ S bk ∧ some bk ≠ a ∧ some bk ≠ b
  | [], _, _, k, p, hp => by simp at hp
  | q :: ps, xs, ⟨v, ys, bk, h1, h2, h3, h4, h5, h6⟩, 0, p, hp => by
    have : q = p := by simpa using hp
    subst this
    exact ⟨v, bk, by rw [h1]; rfl, by rw [h1]; rfl, h2, h3, h4, h5⟩
  | q :: ps, xs, ⟨v, ys, bk, h1, h2, h3, h4, h5, h6⟩, k + 1, p, hp => by
    obtain ⟨v', bk', e1, e2, r⟩ := PcsIn.at_ h6 k p (by simpa using hp)
    exact ⟨v', bk', by rw [h1, show 2 * (k + 1) = 2 * k + 1 + 1 by omega]; simpa using e1, by rw [h1, show 2 * (k + 1) + 1 = 2 * k + 1 + 1 + 1 by omega]; simpa using e2, r⟩

structure DiskAt (w : World) (g : Nat) (σ : DS) (S : Nat → Prop) (vn vs vp : Value) (l : Int) (xs : List Value) : Prop where
  blk : w.heap[g]? = some (.cells #[vn, vs, vp, .int .i64 (σ.n : Int), .bool σ.lim, .int .i64 l] 62 (0, 0))
  left : σ.lim = true → l = (σ.left : Int)
  now : w.ownsRow 0 5 1 vn σ.now.length (bys σ.now)
  syn : w.ownsRow 0 5 1 vs σ.syn.length (bys σ.syn)
  pcs : w.ownsRow 0 90 2 vp σ.pcs.length xs
  txt : PcsIn w S vn.ownBlock vs.ownBlock σ.pcs xs
  ne : vn.ownBlock = none ∨ vn.ownBlock ≠ vs.ownBlock
  inG : S g
  inN : ∀ k, vn.ownBlock = some k → S k
  inS : ∀ k, vs.ownBlock = some k → S k
  inP : ∀ k, vp.ownBlock = some k → S k
  lt : ∀ k, S k → k < w.heap.size
  ok : σ.ok

/-- Block g is a disk in the state σ; what belongs to it lies in S. -/
def IsDisk (w : World) (g : Nat) (σ : DS) (S : Nat → Prop) : Prop := ∃ vn vs vp l xs, DiskAt w g σ S vn vs vp l xs

theorem IsDisk.turns {S T : Nat → Prop} {w w' : World} {g : Nat} {σ : DS} (h : IsDisk w g σ S) (ht : Turns T w w') (hs : ∀ k, S k → ¬ T k) : IsDisk w' g σ S := by
  obtain ⟨vn, vs, vp, l, xs, d⟩ := h
  exact ⟨vn, vs, vp, l, xs, ht.is d.blk (hs g d.inG), d.left, ht.own d.now fun k hk => hs k (d.inN k hk), ht.own d.syn fun k hk => hs k (d.inS k hk), ht.own d.pcs fun k hk => hs k (d.inP k hk),
    d.txt.step ht fun k _ h1 h2 h3 => ⟨hs k h1, h1, h2, h3⟩, d.ne, d.inG, d.inN, d.inS, d.inP, fun k hk => Nat.lt_of_lt_of_le (d.lt k hk) ht.size, d.ok⟩
theorem IsDisk.ok {S : Nat → Prop} {w : World} {g : Nat} {σ : DS} (h : IsDisk w g σ S) : σ.ok := by obtain ⟨_, _, _, _, _, d⟩ := h; exact d.ok
theorem IsDisk.lt {S : Nat → Prop} {w : World} {g : Nat} {σ : DS} (h : IsDisk w g σ S) : ∀ k, S k → k < w.heap.size := by obtain ⟨_, _, _, _, _, d⟩ := h; exact d.lt
theorem IsDisk.drewN {S : Nat → Prop} {w : World} {g : Nat} {σ : DS} (h : IsDisk w g σ S) (n : Nat) : IsDisk (w.drewN n) g σ S :=
  h.turns (T := No) ((Turns.refl _ w).drewN n) fun _ _ => id

/-- Behind a call the disk is in the state σ', and only what was the disk's has turned. -/
def Then (w : World) (g : Nat) (S : Nat → Prop) (σ' : DS) (w' : World) : Prop := ∃ S', IsDisk w' g σ' S' ∧ Turns S w w' ∧ ∀ k, S' k → S k ∨ w.heap.size ≤ k

theorem turns_one (w : World) (g j : Nat) (u : Value) : Turns (· = g) w (w.setCell ⟨g, j, none⟩ u) := Turns.setCell (p := ⟨g, j, none⟩) (Turns.refl (· = g) w) (.inl rfl) u
theorem turns_two (w : World) (g i j : Nat) (u v : Value) : Turns (· = g) w ((w.setCell ⟨g, i, none⟩ u).setCell ⟨g, j, none⟩ v) := Turns.setCell (p := ⟨g, j, none⟩) (turns_one w g i u) (.inl rfl) v

section
variable {w : World} {g : Nat} {σ : DS} {S : Nat → Prop} {vn vs vp : Value} {l : Int} {xs : List Value}

theorem DiskAt.cell (d : DiskAt w g σ S vn vs vp l xs) (j : Nat) : w.cell? ⟨g, j, none⟩ = #[vn, vs, vp, .int .i64 (σ.n : Int), .bool σ.lim, .int .i64 l][j]? := cell_of_row w g j _ _ _ d.blk
theorem DiskAt.frozen (d : DiskAt w g σ S vn vs vp l xs) (j : Nat) : w.frozen? ⟨g, j, none⟩ = false := frozen_of_row w g j _ _ d.blk

theorem DiskAt.set {n' : Nat} {lim' : Bool} {l' : Int} {left' : Nat} {w' : World} (d : DiskAt w g σ S vn vs vp l xs) (hb : w'.heap[g]? = some (.cells #[vn, vs, vp, .int .i64 (n' : Int), .bool lim', .int .i64 l'] 62 (0, 0)))
    (ht : Turns (· = g) w w') (hl : lim' = true → l' = (left' : Int)) (hok : ({ σ with n := n', lim := lim', left := left' } : DS).ok) : DiskAt w' g { σ with n := n', lim := lim', left := left' } S vn vs vp l' xs := by
  have n1 : ∀ k, vn.ownBlock = some k → ¬ k = g := fun k hk e => own_ne d.now d.blk (by decide) (by rw [hk, e])
  have n2 : ∀ k, vs.ownBlock = some k → ¬ k = g := fun k hk e => own_ne d.syn d.blk (by decide) (by rw [hk, e])
  have n3 : ∀ k, vp.ownBlock = some k → ¬ k = g := fun k hk e => own_ne d.pcs d.blk (by decide) (by rw [hk, e])
  refine ⟨hb, hl, ht.own d.now n1, ht.own d.syn n2, ht.own d.pcs n3, ?_, d.ne, d.inG, d.inN, d.inS, d.inP, fun k hk => Nat.lt_of_lt_of_le (d.lt k hk) ht.size, hok⟩
  have key : ∀ {ps : List (Nat × List UInt8)} {xs : List Value}, PcsIn w S vn.ownBlock vs.ownBlock ps xs → PcsIn w' S vn.ownBlock vs.ownBlock ps xs := by
    intro ps
    induction ps with
    | nil => intro xs h; exact h
    | cons p ps ih =>
      rintro xs ⟨v, ys, bk, h1, h2, h3, h4, h5, h6⟩
      refine ⟨v, ys, bk, h1, h2.turns ht ?_, h3, h4, h5, ih h6⟩
      rintro rfl
      obtain ⟨_, _, _, _, hh, _⟩ := h2
      have hb' := d.blk
      rw [hh] at hb'
      injection hb' with hb'
      injection hb' with _ ht'
      exact absurd ht' (by decide)
  exact key d.txt

theorem DiskAt.is (d : DiskAt w g σ S vn vs vp l xs) : IsDisk w g σ S := ⟨_, _, _, _, _, d⟩

/-- call, the power on: a call is counted. -/
theorem call_yes (d : DiskAt w g σ S vn vs vp l xs) (ho : σ.off = false) (hn : σ.n < 1000000) :
    Calls Try.prog 55 #[.pointer (some ⟨g, 0, none⟩)] w fun e w' => e = .returned (.int .i64 0) ∧ ∃ l', Hid (DiskAt w' g σ.tick S vn vs vp l' xs) ∧ Hid (Turns (· = g) w w') := by
  have hok : σ.tick.ok := ⟨d.ok.now, d.ok.syn, d.ok.pcs, Nat.le_trans d.ok.many (Nat.mul_le_mul_right _ (Nat.le_succ _)), by have := d.ok.left; show σ.left - 1 ≤ _; omega⟩
  have h3 := d.cell 3
  have h4 := d.cell 4
  have h5 := d.cell 5
  have f3 := d.frozen 3
  have f5 := d.frozen 5
  simp at h3 h4 h5
  cases hlim : σ.lim with
  | false =>
    rw [hlim] at h4
    refine (call_on w g σ.n (by omega) (by omega) h3 h4 f3).mono ?_
    rintro e w' ⟨rfl, rfl⟩
    refine ⟨rfl, l, d.set (n' := σ.n + 1) (lim' := σ.lim) (left' := σ.left - 1) ?_ ?_ ?_ hok, ?_⟩
    · rw [heap_setCell_same w g 3 _ _ _ d.blk]; simp
    · exact turns_one w g _ _
    · rw [hlim]; intro h; cases h
    · exact turns_one w g _ _
  | true =>
    have hl := d.left hlim
    have hleft : 0 < σ.left := by
      unfold DS.off at ho
      rw [hlim] at ho
      simp at ho
      omega
    rw [hlim] at h4
    refine (call_lim w g l σ.n (by omega) (by have := d.ok.left; omega) (by omega) (by omega) h3 h4 h5 f3 f5).mono ?_
    rintro e w' ⟨rfl, rfl⟩
    refine ⟨rfl, l - 1, d.set (n' := σ.n + 1) (lim' := σ.lim) (left' := σ.left - 1) ?_ ?_ ?_ hok, ?_⟩
    · rw [heap_setCell_same _ g 3 _ _ _ (heap_setCell_same w g 5 _ _ _ d.blk)]; simp
    · exact turns_two w g _ _ _ _
    · intro _; omega
    · exact turns_two w g _ _ _ _

theorem call_no (d : DiskAt w g σ S vn vs vp l xs) (ho : σ.off = true) :
    Calls Try.prog 55 #[.pointer (some ⟨g, 0, none⟩)] w fun e w' => e = .returned (.int .i64 70) ∧ w = w' := by
  have h4 := d.cell 4
  have h5 := d.cell 5
  simp at h4 h5
  unfold DS.off at ho
  simp at ho
  rw [ho.1] at h4
  have hl := d.left ho.1
  rw [hl, ho.2] at h5
  exact call_off w g h4 h5
end

end Go.Proofs.Ytnfmcmjfpbmloaa
