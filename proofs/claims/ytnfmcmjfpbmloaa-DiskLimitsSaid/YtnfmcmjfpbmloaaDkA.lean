/-
  Plain Lean, no program in sight: the state of a disk, what Write, Sync, Fail and Crash make of it, and the few laws on lists that the walks need.
-/
namespace Go.Proofs.Ytnfmcmjfpbmloaa

/-- The state of a disk: the contents, those of the last Sync, the pieces written since, the calls, and how many more succeed (where lim is set). -/
structure DS where
  now : List UInt8
  syn : List UInt8
  pcs : List (Nat × List UInt8)
  n : Nat
  lim : Bool
  left : Nat

def DS.new : DS := { now := [], syn := [], pcs := [], n := 0, lim := false, left := 0 }

/-- A text laid over contents from a place on; what lacks before it is filled with zeros. -/
def lay (c : List UInt8) (off : Nat) (s : List UInt8) : List UInt8 :=
  (c ++ List.replicate (off - c.length) 0).take off ++ (s ++ c.drop (off + s.length))

theorem length_lay (c : List UInt8) (off : Nat) (s : List UInt8) : (lay c off s).length = max c.length (off + s.length) := by
  unfold lay
  simp only [List.length_append, List.length_take, List.length_replicate, List.length_drop]
  omega

/-- The pieces of a text, cut at the multiples of 64 (the first word is fuel: the text's length serves). -/
def cuts : Nat → Nat → List UInt8 → List (Nat × List UInt8)
  | 0, _, _ => []
  | f + 1, off, s => if s = [] then [] else (off, s.take (64 - off % 64)) :: cuts f (off + min (64 - off % 64) s.length) (s.drop (64 - off % 64))

def pieces (off : Nat) (s : List UInt8) : List (Nat × List UInt8) := cuts s.length off s

theorem cuts_fuel : ∀ (f f' off : Nat) (s : List UInt8), s.length ≤ f → s.length ≤ f' → cuts f off s = cuts f' off s := by
  intro f
  induction f with
  | zero =>
    intro f' off s h _
    obtain rfl : s = [] := List.eq_nil_of_length_eq_zero (by omega)
    cases f' <;> simp [cuts]
  | succ f ih =>
    intro f' off s h h'
    cases f' with
    | zero =>
      obtain rfl : s = [] := List.eq_nil_of_length_eq_zero (by omega)
      simp [cuts]
    | succ f' =>
      unfold cuts
      by_cases hs : s = []
      · simp [hs]
      · rw [if_neg hs, if_neg hs]
        have hp : 0 < s.length := List.length_pos_iff.2 hs
        congr 1
        exact ih f' _ _ (by rw [List.length_drop]; omega) (by rw [List.length_drop]; omega)

theorem pieces_nil (off : Nat) : pieces off [] = [] := rfl

theorem pieces_cons (off : Nat) (s : List UInt8) (h : s ≠ []) :
    pieces off s = (off, s.take (64 - off % 64)) :: pieces (off + min (64 - off % 64) s.length) (s.drop (64 - off % 64)) := by
  have hp : 0 < s.length := List.length_pos_iff.2 h
  unfold pieces
  obtain ⟨m, hm⟩ : ∃ m, s.length = m + 1 := ⟨s.length - 1, by omega⟩
  rw [hm]
  conv => lhs; unfold cuts
  rw [if_neg h, ← hm]
  congr 1
  exact cuts_fuel _ _ _ _ (by rw [List.length_drop]; omega) (by rw [List.length_drop]; omega)

/-- Each piece lies within the text's bounds, and there are few. -/
theorem pieces_in (N : Nat) : ∀ (m off : Nat) (s : List UInt8), s.length ≤ m → off + s.length ≤ N → ∀ p ∈ pieces off s, p.1 + p.2.length ≤ N := by
  intro m
  induction m with
  | zero =>
    intro off s h _ p hp
    obtain rfl : s = [] := List.eq_nil_of_length_eq_zero (by omega)
    simp [pieces_nil] at hp
  | succ m ih =>
    intro off s h hN p hp
    by_cases hs : s = []
    · subst hs; simp [pieces_nil] at hp
    · have hl : 0 < s.length := List.length_pos_iff.2 hs
      rw [pieces_cons off s hs, List.mem_cons] at hp
      rcases hp with rfl | hp
      · simp only [List.length_take]; omega
      · exact ih _ _ (by rw [List.length_drop]; omega) (by rw [List.length_drop]; omega) p hp

theorem pieces_len : ∀ (m off : Nat) (s : List UInt8), s.length ≤ m → (pieces off s).length ≤ s.length := by
  intro m
  induction m with
  | zero =>
    intro off s h
    obtain rfl : s = [] := List.eq_nil_of_length_eq_zero (by omega)
    simp [pieces_nil]
  | succ m ih =>
    intro off s h
    by_cases hs : s = []
    · subst hs; simp [pieces_nil]
    · have hl : 0 < s.length := List.length_pos_iff.2 hs
      rw [pieces_cons off s hs, List.length_cons]
      have := ih (off + min (64 - off % 64) s.length) (s.drop (64 - off % 64)) (by rw [List.length_drop]; omega)
      rw [List.length_drop] at this
      omega

def DS.off (σ : DS) : Bool := σ.lim && σ.left == 0
def DS.tick (σ : DS) : DS := { σ with n := σ.n + 1, left := σ.left - 1 }

def DS.write (σ : DS) (off : Int) (s : List UInt8) : DS :=
  if off < 0 ∨ 16777216 < off + s.length then σ
  else if σ.off then σ
  else { σ.tick with now := lay σ.now off.toNat s, pcs := σ.pcs ++ pieces off.toNat s }
def DS.writeE (σ : DS) (off : Int) (s : List UInt8) : Int :=
  if off < 0 ∨ 16777216 < off + s.length then 1 else if σ.off then 70 else 0
def DS.sync (σ : DS) : DS := if σ.off then σ else { σ.tick with syn := σ.now, pcs := [] }
def DS.syncE (σ : DS) : Int := if σ.off then 70 else 0
def DS.fail (σ : DS) (after : Int) : DS := { σ with lim := decide (0 ≤ after), left := after.toNat }
def DS.read (σ : DS) (off n : Int) : List UInt8 := if off < 0 ∨ n < 1 then [] else (σ.now.drop off.toNat).take n.toNat

/-- Does the piece number k survive? -/
def lives (q : List Int) (k : Nat) : Bool := decide (0 < q.length) && ((q.getD (k % q.length) 0) % 2 != 0)
/-- The contents behind a crash: the pieces from number k on laid over c. -/
def fall (q : List Int) : Nat → List UInt8 → List (Nat × List UInt8) → List UInt8
  | _, c, [] => c
  | k, c, p :: ps => fall q (k + 1) (if lives q k then lay c p.1 p.2 else c) ps
def DS.crash (σ : DS) (q : List Int) : DS := { DS.new with now := fall q 0 σ.syn σ.pcs, syn := fall q 0 σ.syn σ.pcs }

theorem fall_snoc (q : List Int) : ∀ (ps : List (Nat × List UInt8)) (k : Nat) (c : List UInt8) (p : Nat × List UInt8),
    fall q k c (ps ++ [p]) = if lives q (k + ps.length) then lay (fall q k c ps) p.1 p.2 else fall q k c ps := by
  intro ps
  induction ps with
  | nil => intro k c p; simp [fall]
  | cons a ps ih =>
    intro k c p
    simp only [List.cons_append, fall, ih, List.length_cons]
    rw [show k + 1 + ps.length = k + (ps.length + 1) by omega]

/-- What holds of the state of every disk. -/
structure DS.ok (σ : DS) : Prop where
  now : σ.now.length ≤ 16777216
  syn : σ.syn.length ≤ 16777216
  pcs : ∀ p ∈ σ.pcs, p.1 + p.2.length ≤ 16777216
  many : σ.pcs.length ≤ σ.n * 16777216
  left : σ.left ≤ 9223372036854775807

theorem fall_le (q : List Int) : ∀ (ps : List (Nat × List UInt8)) (k : Nat) (c : List UInt8), c.length ≤ 16777216 → (∀ p ∈ ps, p.1 + p.2.length ≤ 16777216) → (fall q k c ps).length ≤ 16777216 := by
  intro ps
  induction ps with
  | nil => intro k c h _; exact h
  | cons a ps ih =>
    intro k c h hp
    refine ih _ _ ?_ fun p hm => hp p (List.mem_cons_of_mem _ hm)
    have := hp a (List.mem_cons_self ..)
    split
    · rw [length_lay]; omega
    · exact h

theorem DS.ok_new : DS.new.ok := ⟨by simp [DS.new], by simp [DS.new], by simp [DS.new], by simp [DS.new], by simp [DS.new]⟩

theorem DS.ok.write {σ : DS} (h : σ.ok) (off : Int) (s : List UInt8) : (σ.write off s).ok := by
  unfold DS.write
  split
  · exact h
  · rename_i hb
    split
    · exact h
    · refine ⟨?_, h.syn, ?_, ?_, ?_⟩
      · show (lay _ _ _).length ≤ _
        rw [length_lay]; have := h.now; omega
      · intro p hp
        rcases List.mem_append.1 hp with hp | hp
        · exact h.pcs p hp
        · exact pieces_in _ _ _ _ (Nat.le_refl _) (by omega) p hp
      · show (σ.pcs ++ pieces off.toNat s).length ≤ (σ.n + 1) * 16777216
        rw [List.length_append]
        have h1 := h.many
        have h2 := pieces_len _ off.toNat s (Nat.le_refl _)
        omega
      · show σ.left - 1 ≤ _
        have := h.left; omega

theorem DS.ok.sync {σ : DS} (h : σ.ok) : σ.sync.ok := by
  unfold DS.sync
  split
  · exact h
  · exact ⟨h.now, h.now, by simp, by simp, by show σ.left - 1 ≤ _; have := h.left; omega⟩

theorem DS.ok.fail {σ : DS} (h : σ.ok) (after : Int) (ha : after ≤ 9223372036854775807) : (σ.fail after).ok :=
  ⟨h.now, h.syn, h.pcs, h.many, by show after.toNat ≤ _; omega⟩

theorem DS.ok.crash {σ : DS} (h : σ.ok) (q : List Int) : (σ.crash q).ok :=
  ⟨fall_le q _ _ _ h.syn h.pcs, fall_le q _ _ _ h.syn h.pcs, by simp [DS.crash, DS.new], by simp [DS.crash, DS.new], by simp [DS.crash, DS.new]⟩

/-- No write, no sync: the calls grow by one at most. -/
theorem DS.write_n (σ : DS) (off : Int) (s : List UInt8) : (σ.write off s).n ≤ σ.n + 1 := by
  unfold DS.write
  split
  · omega
  · split
    · omega
    · exact Nat.le_refl _
theorem DS.sync_n (σ : DS) : σ.sync.n ≤ σ.n + 1 := by
  unfold DS.sync
  split
  · omega
  · exact Nat.le_refl _

end Go.Proofs.Ytnfmcmjfpbmloaa
