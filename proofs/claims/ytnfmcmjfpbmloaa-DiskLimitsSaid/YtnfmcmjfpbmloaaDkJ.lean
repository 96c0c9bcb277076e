/-
  Several things in memory, apart from each other: 'At w0 w L': in the world w the things of the list L lie side by side, all of them made since w0; what was there in w0 is as it was.
-/
import Derived.Test.YtnfmcmjfpbmloaaDkI
namespace Go.Proofs.Ytnfmcmjfpbmloaa
open Go.RowKit

/-- A thing in memory: what it is in a world, and which blocks are its own. -/
structure HP where
  is : World → (Nat → Prop) → Prop
  keep : ∀ {w w' : World} {S T : Nat → Prop}, is w S → Turns T w w' → (∀ k, S k → ¬ T k) → is w' S
  lt : ∀ {w : World} {S : Nat → Prop}, is w S → ∀ k, S k → k < w.heap.size

def Heaps (w : World) : List HP → (Nat → Prop) → Prop
  | [], S => ∀ k, ¬ S k
  | P :: L, S => ∃ S1 S2, P.is w S1 ∧ Heaps w L S2 ∧ (∀ k, S1 k → ¬ S2 k) ∧ (∀ k, S k ↔ (S1 k ∨ S2 k))

theorem Heaps.keep {w w' : World} {T : Nat → Prop} (ht : Turns T w w') : ∀ {L : List HP} {S : Nat → Prop}, Heaps w L S → (∀ k, S k → ¬ T k) → Heaps w' L S
  | [], _, h, _ => h
  | _ :: _, _, ⟨S1, S2, h1, h2, h3, h4⟩, hs => ⟨S1, S2, HP.keep _ h1 ht fun k hk => hs k ((h4 k).2 (.inl hk)), Heaps.keep ht h2 fun k hk => hs k ((h4 k).2 (.inr hk)), h3, h4⟩
theorem Heaps.lt {w : World} : ∀ {L : List HP} {S : Nat → Prop}, Heaps w L S → ∀ k, S k → k < w.heap.size
  | [], _, h, k, hk => absurd hk (h k)
  | P :: _, _, ⟨S1, S2, h1, h2, _, h4⟩, k, hk => by
    rcases (h4 k).1 hk with h | h
    · exact P.lt h1 k h
    · exact Heaps.lt h2 k h

/-- One thing is changed, into another of a like kind: its own blocks, and new ones, alone have turned. -/
theorem Heaps.step {w : World} {P : HP} : ∀ {L : List HP} {S : Nat → Prop} (i : Nat), Heaps w L S → L[i]? = some P →
    ∃ S1, P.is w S1 ∧ (∀ k, S1 k → S k) ∧ ∀ w' (P' : HP) S1', P'.is w' S1' → Turns S1 w w' → (∀ k, S1' k → S1 k ∨ w.heap.size ≤ k) → ∃ S', Heaps w' (L.set i P') S' ∧ (∀ k, S' k → S k ∨ w.heap.size ≤ k)
  | [], _, i, _, hi => by simp at hi
  | Q :: L, S, 0, ⟨S1, S2, h1, h2, h3, h4⟩, hi => by
    have : Q = P := by simpa using hi
    subst this
    refine ⟨S1, h1, fun k hk => (h4 k).2 (.inl hk), fun w' P' S1' h ht hs => ⟨fun k => S1' k ∨ S2 k, ⟨S1', S2, h, Heaps.keep ht h2 fun k hk h => h3 k h hk, ?_, fun k => Iff.rfl⟩, ?_⟩⟩
    · intro k hk hk2
      rcases hs k hk with h | h
      · exact h3 k h hk2
      · have := h2.lt k hk2; omega
    · rintro k (hk | hk)
      · rcases hs k hk with h | h
        · exact .inl ((h4 k).2 (.inl h))
        · exact .inr h
      · exact .inl ((h4 k).2 (.inr hk))
  | Q :: L, S, i + 1, ⟨S1, S2, h1, h2, h3, h4⟩, hi => by
    obtain ⟨T, hP, hT, hn⟩ := Heaps.step i h2 (by simpa using hi)
    refine ⟨T, hP, fun k hk => (h4 k).2 (.inr (hT k hk)), fun w' P' S1' h ht hs => ?_⟩
    obtain ⟨S', hS', hsub⟩ := hn w' P' S1' h ht hs
    refine ⟨fun k => S1 k ∨ S' k, ⟨S1, S', Q.keep h1 ht fun k hk h => h3 k hk (hT k h), hS', ?_, fun k => Iff.rfl⟩, ?_⟩
    · intro k hk hk2
      rcases hsub k hk2 with h | h
      · exact h3 k hk h
      · have := Q.lt h1 k hk; omega
    · rintro k (hk | hk)
      · exact .inl ((h4 k).2 (.inl hk))
      · rcases hsub k hk with h | h
        · exact .inl ((h4 k).2 (.inr h))
        · exact .inr h

def At (w0 w : World) (L : List HP) : Prop := ∃ S, Heaps w L S ∧ (∀ k, S k → w0.heap.size ≤ k) ∧ Below w0.heap.size w0 w

theorem At.start (w0 : World) : At w0 w0 [] := ⟨fun _ => False, fun _ => id, fun _ h => h.elim, Below.refl _ _⟩
theorem At.below {w0 w : World} {L : List HP} (h : At w0 w L) : Below w0.heap.size w0 w := by obtain ⟨_, _, _, h⟩ := h; exact h

/-- A thing's fact. -/
theorem At.get {w0 w : World} {L : List HP} {P : HP} (h : At w0 w L) (i : Nat) (hi : L[i]? = some P) : ∃ S, P.is w S := by
  obtain ⟨S, h1, _, _⟩ := h
  obtain ⟨S1, hP, _⟩ := h1.step i hi
  exact ⟨S1, hP⟩

/-- Nothing has turned (draws, new blocks). -/
theorem At.keep {w0 w w' : World} {L : List HP} (h : At w0 w L) (ht : Turns No w w') : At w0 w' L := by
  obtain ⟨S, h1, h2, h3⟩ := h
  exact ⟨S, h1.keep ht fun _ _ => id, h2, h3.trans (ht.toBelow (fun _ h => h.elim) h3.size)⟩
theorem At.drewN {w0 w : World} {L : List HP} (h : At w0 w L) (n : Nat) : At w0 (w.drewN n) L := h.keep ((Turns.refl _ w).drewN n)
theorem At.drew {w0 w : World} {L : List HP} (h : At w0 w L) : At w0 w.drew L := h.keep (Turns.refl _ w).drew
theorem At.alloc {w0 w : World} {L : List HP} (h : At w0 w L) (o : Obj) : At w0 (w.alloc o) L := h.keep ((Turns.refl _ w).alloc o)

/-- A new thing. -/
theorem At.more {w0 w w' : World} {L : List HP} {P : HP} {S : Nat → Prop} (h : At w0 w L) (hb : Below w.heap.size w w') (hP : P.is w' S) (hS : ∀ k, S k → w.heap.size ≤ k) : At w0 w' (P :: L) := by
  obtain ⟨S0, h1, h2, h3⟩ := h
  refine ⟨fun k => S k ∨ S0 k, ⟨S, S0, hP, h1.keep (Turns.below (S := No) hb) fun _ _ => id, ?_, fun _ => Iff.rfl⟩, ?_, h3.trans (hb.mono h3.size)⟩
  · intro k hk hk2
    have h1 := hS k hk
    have h2 := h1
    have := Heaps.lt ‹Heaps w L S0› k hk2
    omega
  · rintro k (hk | hk)
    · exact Nat.le_trans h3.size (hS k hk)
    · exact h2 k hk

/-- A thing is changed by what a call does to it. -/
theorem At.step {w0 w : World} {L : List HP} {P : HP} {P' : Ending → HP} {R : Ending → Prop} {f : FuncId} {args : Array Value} (h : At w0 w L) (i : Nat) (hi : L[i]? = some P)
    (hc : ∀ S, P.is w S → Calls Try.prog f args w fun e w' => R e ∧ ∃ S', (P' e).is w' S' ∧ Turns S w w' ∧ ∀ k, S' k → S k ∨ w.heap.size ≤ k) :
    Calls Try.prog f args w fun e w' => R e ∧ At w0 w' (L.set i (P' e)) := by
  obtain ⟨S, h1, h2, h3⟩ := h
  obtain ⟨S1, hP, hsub, hn⟩ := h1.step i hi
  refine (hc S1 hP).mono ?_
  rintro e w' ⟨hR, S', k1, k2, k3⟩
  obtain ⟨S2, j1, j2⟩ := hn w' (P' e) S' k1 k2 k3
  refine ⟨hR, S2, j1, ?_, h3.trans (k2.toBelow (fun k hk => h2 k (hsub k hk)) h3.size)⟩
  intro k hk
  rcases j2 k hk with h | h
  · exact h2 k h
  · exact Nat.le_trans h3.size h

/-- A thing is changed by steps of one's own. -/
theorem At.turn {w0 w w' : World} {L : List HP} {P P' : HP} (h : At w0 w L) (i : Nat) (hi : L[i]? = some P) (hc : ∀ S, P.is w S → ∃ S', P'.is w' S' ∧ Turns S w w' ∧ ∀ k, S' k → S k ∨ w.heap.size ≤ k) : At w0 w' (L.set i P') := by
  obtain ⟨S, h1, h2, h3⟩ := h
  obtain ⟨S1, hP, hsub, hn⟩ := h1.step i hi
  obtain ⟨S', k1, k2, k3⟩ := hc S1 hP
  obtain ⟨S2, j1, j2⟩ := hn w' P' S' k1 k2 k3
  refine ⟨S2, j1, ?_, h3.trans (k2.toBelow (fun k hk => h2 k (hsub k hk)) h3.size)⟩
  intro k hk
  rcases j2 k hk with h | h
  · exact h2 k h
  · exact Nat.le_trans h3.size h

/-! ### the disk as a thing -/

def dk (g : Nat) (σ : DS) : HP := ⟨fun w S => IsDisk w g σ S, fun h ht hs => h.turns ht hs, fun h => h.lt⟩
/-- A block of one's own. -/
def bl (g : Nat) (t : TypeId) (cs : Array Value) : HP :=
  ⟨fun w S => w.heap[g]? = some (.cells cs t (0, 0)) ∧ ∀ k, S k ↔ k = g, fun h ht hs => ⟨ht.is h.1 (hs g ((h.2 g).2 rfl)), h.2⟩, fun h k hk => by rw [(h.2 k).1 hk]; exact lt_of_block h.1⟩

section
variable {w0 w : World} {L : List HP} {g : Nat} {σ : DS}

theorem At.disk (h : At w0 w L) (i : Nat) (hi : L[i]? = some (dk g σ)) : ∃ S, IsDisk w g σ S := h.get i hi
theorem At.block {t : TypeId} {cs : Array Value} (h : At w0 w L) (i : Nat) (hi : L[i]? = some (bl g t cs)) : w.heap[g]? = some (.cells cs t (0, 0)) := by
  obtain ⟨S, h1, _⟩ := h.get i hi
  exact h1

theorem at_new (h : At w0 w L) : Calls Try.prog 21 #[] w fun e w' => e = .returned (.pointer (some ⟨w.heap.size, 0, none⟩)) ∧ At w0 w' (dk w.heap.size DS.new :: L) := by
  refine (new_is w).mono ?_
  rintro e w' ⟨rfl, rfl⟩
  exact ⟨rfl, h.more ((Below.refl _ _).alloc (Nat.le_refl _) _) (P := dk w.heap.size DS.new) (isDisk_new w) fun k hk => Nat.le_of_eq hk.symm⟩

theorem at_write (h : At w0 w L) (i : Nat) (hi : L[i]? = some (dk g σ)) (hn : σ.n < 100000) (off : Int) (s : ByteArray) :
    Calls Try.prog 34 #[.pointer (some ⟨g, 0, none⟩), .int .i64 off, .string s] w fun e w' => e = .returned (.int .i64 (σ.writeE off s.data.toList)) ∧ At w0 w' (L.set i (dk g (σ.write off s.data.toList))) :=
  h.step i hi (P' := fun _ => dk g (σ.write off s.data.toList)) fun _ hd => write_any hd hn off s

theorem at_sync (h : At w0 w L) (i : Nat) (hi : L[i]? = some (dk g σ)) (hn : σ.n < 100000) :
    Calls Try.prog 35 #[.pointer (some ⟨g, 0, none⟩)] w fun e w' => e = .returned (.int .i64 σ.syncE) ∧ At w0 w' (L.set i (dk g σ.sync)) :=
  h.step i hi (P' := fun _ => dk g σ.sync) fun _ hd => sync_any hd (by omega)

theorem at_fail (h : At w0 w L) (i : Nat) (hi : L[i]? = some (dk g σ)) (n : Int) (hn : n ≤ 9223372036854775807) :
    Calls Try.prog 37 #[.pointer (some ⟨g, 0, none⟩), .int .i64 n] w fun e w' => e = .returned (.tuple #[]) ∧ At w0 w' (L.set i (dk g (σ.fail n))) :=
  h.step i hi (P' := fun _ => dk g (σ.fail n)) fun _ hd => fail_is hd n hn

theorem at_read (h : At w0 w L) (i : Nat) (hi : L[i]? = some (dk g σ)) (off n : Int) :
    Calls Try.prog 36 #[.pointer (some ⟨g, 0, none⟩), .int .i64 off, .int .i64 n] w fun e w' => e = .returned (.string (str (σ.read off n))) ∧ At w0 w' L := by
  obtain ⟨S, hd⟩ := h.disk i hi
  refine (read_any hd off n).mono ?_
  rintro e w' ⟨rfl, m, rfl⟩
  exact ⟨rfl, h.drewN m⟩

theorem at_size (h : At w0 w L) (i : Nat) (hi : L[i]? = some (dk g σ)) :
    Calls Try.prog 24 #[.pointer (some ⟨g, 0, none⟩)] w fun e w' => e = .returned (.int .i64 (σ.now.length : Int)) ∧ w = w' := by
  obtain ⟨S, hd⟩ := h.disk i hi
  exact size_is hd

theorem at_calls (h : At w0 w L) (i : Nat) (hi : L[i]? = some (dk g σ)) :
    Calls Try.prog 26 #[.pointer (some ⟨g, 0, none⟩)] w fun e w' => e = .returned (.int .i64 (σ.n : Int)) ∧ w = w' := by
  obtain ⟨S, hd⟩ := h.disk i hi
  exact calls_is hd

theorem at_crash (h : At w0 w L) (i : Nat) (hi : L[i]? = some (dk g σ)) (v : Value) (q : List Int) (hq : Reads w 1 v q.length (q.map (.int .i64))) :
    Calls Try.prog 30 #[.pointer (some ⟨g, 0, none⟩), v] w fun e w' => e = .returned (.pointer (some ⟨w.heap.size, 0, none⟩)) ∧ At w0 w' (dk w.heap.size (σ.crash q) :: L) := by
  obtain ⟨S, hd⟩ := h.disk i hi
  refine (crash_any hd v q hq).mono ?_
  rintro e w' ⟨rfl, hb, S', h1, h2⟩
  exact ⟨rfl, h.more (P := dk w.heap.size (σ.crash q)) hb h1 h2⟩
end

end Go.Proofs.Ytnfmcmjfpbmloaa
