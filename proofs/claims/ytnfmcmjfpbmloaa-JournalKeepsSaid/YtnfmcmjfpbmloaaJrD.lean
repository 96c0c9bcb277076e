/-
  Open: its contract (this text is printed by mkje.py).
-/
import Derived.Test.YtnfmcmjfpbmloaaJrC
namespace Go.Proofs.Ytnfmcmjfpbmloaa
open Go.RowKit Go.Shelf
attribute [local go_sem] Oper.semAt_some

/-- What Open hands back where it fails. -/
def OpenNo (w0 : World) (L : List HP) (c : Int) (e : Ending) (w' : World) : Prop := e = .returned (.tuple #[.pointer none, .slice none 0 0, .int .i64 c]) ∧ At w0 w' L

theorem open_close {w0 w1 : World} {L : List HP} {g0 : Nat} {a b c : Value} (h : At w0 w1 (bl (g0 + 1 + 1) 44 #[a] :: bl (g0 + 1) 64 #[b] :: bl g0 65 #[c] :: L)) (x y z : Value) :
    At w0 (((w1.setCell ⟨g0, 0, none⟩ x).setCell ⟨g0 + 1, 0, none⟩ y).setCell ⟨g0 + 1 + 1, 0, none⟩ z) L :=
  (at_set (at_set (at_set h 2 rfl 0 x #[x] rfl) 1 rfl 0 y #[y] rfl) 0 rfl 0 z #[z] rfl).tail.tail.tail

set_option maxRecDepth 100000 in
set_option maxHeartbeats 2000000 in
theorem open_off {w0 w : World} {L : List HP} {g : Nat} {σ : DS} (h : At w0 w (dk g σ :: L)) (hn : σ.n < 100000) (ho : σ.off = true) :
    Calls Try.prog 41 #[.pointer (some ⟨g, 0, none⟩)] w (OpenNo w0 (dk g σ :: L) 70) := by
  refine (callsIn_wide (n := 5)).1 ?_
  refine callsIn_of_wp_marks Try.func41 rfl trivial ?_ rfl
  simp only [Try.ntmps41, List.size_toArray, List.length_cons, List.length_nil, Nat.reduceAdd, Nat.reduceSub, Array.replicate_succ, Array.replicate_zero, List.push_toArray, List.append_toArray, List.nil_append, List.cons_append]
  refine wpIn_wide.2 ?_
  have H0 := Lib.hid (at_alloc (at_alloc (at_alloc h 65 #[.pointer none]) 64 #[.slice none 0 0]) 44 #[.int .i64 0])
  clear h
  obtain ⟨g0, hg0⟩ : ∃ g0, w.heap.size = g0 := ⟨_, rfl⟩
  simp only [World.size_alloc, hg0] at H0
  go_wp2_with fail
  refine (at_sync_c H0.out 3 rfl hn 70 (by unfold DS.syncE; rw [ho]; rfl) σ (by unfold DS.sync; rw [ho]; rfl)).mono ?_
  rintro e w1 ⟨rfl, h1⟩
  generalize (((w.alloc (.cells #[.pointer none] 65)).alloc (.cells #[.slice none 0 0] 64)).alloc (.cells #[.int .i64 0] 44)) = wx at *
  have c0 := h1.cell 2 rfl 0 _ rfl
  have c1 := h1.cell 1 rfl 0 _ rfl
  have c2 := h1.cell 0 rfl 0 _ rfl
  have f0 : w1.frozen? ⟨g0, 0, none⟩ = false := frozen_of_row w1 _ _ _ _ (h1.block 2 rfl)
  have f1 : w1.frozen? ⟨g0 + 1, 0, none⟩ = false := frozen_of_row w1 _ _ _ _ (h1.block 1 rfl)
  have f2 : w1.frozen? ⟨g0 + 1 + 1, 0, none⟩ = false := frozen_of_row w1 _ _ _ _ (h1.block 0 rfl)
  have H1 := Lib.hid h1
  clear h1 H0
  go_wp2_with fail
  refine ⟨.tuple #[.pointer none, .slice none 0 0, .int .i64 70], ?_, ?_⟩
  · simp [results, Try.results41, go_sem, c0, c1, c2]
  exact ⟨rfl, open_close H1.out _ _ _⟩

/-- A list of texts in memory. -/
def sl (v : Value) (l : List (List UInt8)) : HP :=
  ⟨fun w S => w.ownsRow 0 9 1 v l.length (l.map fun s => .string (str s)) ∧ ∀ k, S k ↔ v.ownBlock = some k, fun h ht hs => ⟨ht.own h.1 fun k hk => hs k ((h.2 k).2 hk), h.2⟩, fun h k hk => own_lt h.1 k ((h.2 k).1 hk)⟩

def headOk (c : List UInt8) : Prop := 0 ≤ valN (rd c 0 8) 8 ∧ valN (rd c 0 8) 8 ≤ 16777216 ∧ (valN (rd c 0 8) 8 = 0 ∨ 64 + valN (rd c 0 8) 8 ≤ c.length)

set_option maxRecDepth 100000 in
set_option maxHeartbeats 2000000 in
theorem open_head {w0 w : World} {L : List HP} {g : Nat} {σ : DS} (h : At w0 w (dk g σ :: L)) (hn : σ.n < 100000) (ho : σ.off = false) (hb : ¬ headOk σ.now) :
    Calls Try.prog 41 #[.pointer (some ⟨g, 0, none⟩)] w (OpenNo w0 (dk g σ.sync :: L) 11) := by
  have HR := Lib.hid (show str (σ.sync.read 0 8) = str (rd σ.now 0 8) by rw [show (0 : Int) = ((0 : Nat) : Int) from rfl, show (8 : Int) = ((8 : Nat) : Int) from rfl, read_rd]; unfold DS.sync; rw [ho]; rfl)
  have HL := Lib.hid (show σ.sync.now = σ.now by unfold DS.sync; rw [ho]; rfl)
  have hsz := h.disk 0 rfl
  obtain ⟨S, hd⟩ := hsz
  have hlen := hd.ok.now
  clear hd
  refine (callsIn_wide (n := 5)).1 ?_
  refine callsIn_of_wp_marks Try.func41 rfl trivial ?_ rfl
  simp only [Try.ntmps41, List.size_toArray, List.length_cons, List.length_nil, Nat.reduceAdd, Nat.reduceSub, Array.replicate_succ, Array.replicate_zero, List.push_toArray, List.append_toArray, List.nil_append, List.cons_append]
  refine wpIn_wide.2 ?_
  have H0 := Lib.hid (at_alloc (at_alloc (at_alloc h 65 #[.pointer none]) 64 #[.slice none 0 0]) 44 #[.int .i64 0])
  clear h
  obtain ⟨g0, hg0⟩ : ∃ g0, w.heap.size = g0 := ⟨_, rfl⟩
  simp only [World.size_alloc, hg0] at H0
  go_wp2_with fail
  refine (at_sync_c H0.out 3 rfl hn 0 (by unfold DS.syncE; rw [ho]; rfl) σ.sync rfl).mono ?_
  rintro e w1 ⟨rfl, h1⟩
  generalize (((w.alloc (.cells #[.pointer none] 65)).alloc (.cells #[.slice none 0 0] 64)).alloc (.cells #[.int .i64 0] 44)) = wx at *
  have H1 := Lib.hid h1
  clear h1 H0
  go_wp2_with fail
  refine (at_read_c H1.out 3 rfl 0 8 _ HR.out).mono ?_
  rintro e w2 ⟨rfl, h2⟩
  have H2 := Lib.hid h2
  clear h2 H1
  go_wp2_with fail
  refine (value_any _ 8 (by omega) _).mono ?_
  rintro e w2' ⟨rfl, rfl⟩
  rw [str_data]
  unfold headOk at hb
  generalize valN (rd σ.now 0 8) 8 = N at *
  have c0 := H2.out.cell 2 rfl 0 _ rfl
  have c1 := H2.out.cell 1 rfl 0 _ rfl
  have c2 := H2.out.cell 0 rfl 0 _ rfl
  have f0 : w2.frozen? ⟨g0, 0, none⟩ = false := frozen_of_row w2 _ _ _ _ (H2.out.block 2 rfl)
  have f1 : w2.frozen? ⟨g0 + 1, 0, none⟩ = false := frozen_of_row w2 _ _ _ _ (H2.out.block 1 rfl)
  have f2 : w2.frozen? ⟨g0 + 1 + 1, 0, none⟩ = false := frozen_of_row w2 _ _ _ _ (H2.out.block 0 rfl)
  have hcase : N < 0 ∨ (0 ≤ N ∧ 16777216 < N) ∨ (0 < N ∧ N ≤ 16777216 ∧ (σ.now.length : Int) < 64 + N) := by omega
  clear hb
  rcases hcase with h1 | ⟨h1, h2⟩ | ⟨h1, h2, h3⟩
  · go_wp2_with fail
    refine ⟨.tuple #[.pointer none, .slice none 0 0, .int .i64 11], ?_, ?_⟩
    · simp [results, Try.results41, go_sem, c0, c1, c2]
    exact ⟨rfl, open_close H2.out _ _ _⟩
  · go_wp2_with fail
    refine ⟨.tuple #[.pointer none, .slice none 0 0, .int .i64 11], ?_, ?_⟩
    · simp [results, Try.results41, go_sem, c0, c1, c2]
    exact ⟨rfl, open_close H2.out _ _ _⟩
  · have h0 : 0 ≤ N := by omega
    go_wp2_with fail
    refine (at_size_c H2.out 3 rfl (σ.now.length : Int) (by rw [HL.out])).mono ?_
    rintro e w3 ⟨rfl, rfl⟩
    go_wp2_with fail
    refine ⟨.tuple #[.pointer none, .slice none 0 0, .int .i64 11], ?_, ?_⟩
    · simp [results, Try.results41, go_sem, c0, c1, c2]
    exact ⟨rfl, open_close H2.out _ _ _⟩
/-- How many bytes the records take, with what is reserved for each. -/
def bsum : List Tok → Nat
  | [] => 0
  | x :: l => bsum l + x.s.size + 16
def OpenEnd (w0 : World) (L : List HP) (g : Nat) (xs : List Tok) (ee : Nat) (e : Ending) (w' : World) : Prop :=
  ((∃ x ∈ xs, x.ok = false) ∧ OpenNo w0 L 11 e w') ∨
  ((∀ x ∈ xs, x.ok = true) ∧ ∃ jb v, e = .returned (.tuple #[.pointer (some ⟨jb, 0, none⟩), v, .int .i64 0]) ∧
    At w0 w' (bl jb 82 #[.pointer (some ⟨g, 0, none⟩), .int .i64 (xs.length : Int), .int .i64 (bsum xs : Int), .int .i64 (ee : Int), .bool false] :: sl v (xs.map fun x => x.s.data.toList) :: L))

theorem Heaps.apart {w : World} : ∀ {L : List HP} {S : Nat → Prop} {P : HP} (i : Nat), Heaps w L S → L[i]? = some P →
    ∃ S1, P.is w S1 ∧ (∀ k, S1 k → S k) ∧ ∀ j Q, j ≠ i → L[j]? = some Q → ∃ S2, Q.is w S2 ∧ ∀ k, S1 k → ¬ S2 k
  | [], _, _, i, _, hi => by simp at hi
  | Q :: L, S, P, 0, ⟨S1, S2, h1, h2, h3, h4⟩, hi => by
    have : Q = P := by simpa using hi
    subst this
    refine ⟨S1, h1, fun k hk => (h4 k).2 (.inl hk), fun j Q' hj hQ => ?_⟩
    obtain ⟨j', rfl⟩ : ∃ j', j = j' + 1 := ⟨j - 1, by omega⟩
    obtain ⟨S3, k1, k2, _⟩ := Heaps.apart j' h2 (by simpa using hQ)
    exact ⟨S3, k1, fun k hk h => h3 k hk (k2 k h)⟩
  | Q :: L, S, P, i + 1, ⟨S1, S2, h1, h2, h3, h4⟩, hi => by
    obtain ⟨S3, k1, k2, k3⟩ := Heaps.apart i h2 (by simpa using hi)
    refine ⟨S3, k1, fun k hk => (h4 k).2 (.inr (k2 k hk)), fun j Q' hj hQ => ?_⟩
    cases j with
    | zero =>
      have : Q = Q' := by simpa using hQ
      subst this
      exact ⟨S1, h1, fun k hk h => h3 k h (k2 k hk)⟩
    | succ j => exact k3 j Q' (by omega) (by simpa using hQ)
theorem At.apart {w0 w : World} {L : List HP} {g : Nat} {σ : DS} (h : At w0 w L) (i : Nat) (hi : L[i]? = some (dk g σ)) : ∃ S, IsDisk w g σ S ∧ ∀ j b t cs, j ≠ i → L[j]? = some (bl b t cs) → ¬ S b := by
  obtain ⟨S, h1, _, _⟩ := h
  obtain ⟨S1, k1, _, k3⟩ := h1.apart i hi
  refine ⟨S1, k1, fun j b t cs hj hb hs => ?_⟩
  obtain ⟨S2, m1, m2⟩ := k3 j _ hj hb
  exact m2 b hs ((m1.2 b).2 rfl)
/-- Blocks of one's own are let go; what else lies there lies on. -/
theorem Heaps.drop {w : World} {L : List HP} : ∀ {Bs : List (Nat × TypeId × Array Value)} {S : Nat → Prop}, Heaps w (Bs.map (fun b => bl b.1 b.2.1 b.2.2) ++ L) S → ∃ S2, Heaps w L S2 ∧ (∀ k, S2 k → S k) ∧ ∀ b ∈ Bs, ¬ S2 b.1 ∧ S b.1
  | [], S, h => ⟨S, h, fun _ => id, fun _ h => by cases h⟩
  | b :: Bs, S, ⟨S1, S2, h1, h2, h3, h4⟩ => by
    obtain ⟨S3, k1, k2, k3⟩ := Heaps.drop h2
    refine ⟨S3, k1, fun k hk => (h4 k).2 (.inr (k2 k hk)), fun c hc => ?_⟩
    rcases List.mem_cons.1 hc with rfl | hc
    · have hb : S1 c.1 := (h1.2 c.1).2 rfl
      exact ⟨fun h => h3 _ hb (k2 _ h), (h4 _).2 (.inl hb)⟩
    · exact ⟨(k3 c hc).1, (h4 _).2 (.inr (k3 c hc).2)⟩
theorem At.drop {w0 w w' : World} {L : List HP} (Bs : List (Nat × TypeId × Array Value)) (h : At w0 w (Bs.map (fun b => bl b.1 b.2.1 b.2.2) ++ L)) (ht : Turns (fun k => (∃ b ∈ Bs, b.1 = k) ∨ w.heap.size ≤ k) w w') :
    At w0 w' L ∧ ∀ (P : HP) (SP : Nat → Prop), P.is w' SP → (∀ k, SP k → (∃ b ∈ Bs, b.1 = k) ∨ w.heap.size ≤ k) → At w0 w' (P :: L) ∧
      ∀ (P2 : HP) (SP2 : Nat → Prop), P2.is w' SP2 → (∀ k, SP2 k → (∃ b ∈ Bs, b.1 = k) ∨ w.heap.size ≤ k) → (∀ k, SP2 k → ¬ SP k) → At w0 w' (P2 :: P :: L) := by
  obtain ⟨S, h1, h2, h3⟩ := h
  obtain ⟨S2, k1, k2, k3⟩ := h1.drop
  have hS2 : ∀ k, S2 k → ¬ ((∃ b ∈ Bs, b.1 = k) ∨ w.heap.size ≤ k) := by
    rintro k hk (⟨b, hb, rfl⟩ | h)
    · exact (k3 b hb).1 hk
    · have := k1.lt k hk; omega
  have hin : ∀ k, ((∃ b ∈ Bs, b.1 = k) ∨ w.heap.size ≤ k) → w0.heap.size ≤ k := by
    rintro k (⟨b, hb, rfl⟩ | h)
    · exact h2 _ (k3 b hb).2
    · exact Nat.le_trans h3.size h
  have hL := k1.keep ht hS2
  have hbel : Below w0.heap.size w0 w' := h3.trans (ht.toBelow hin h3.size)
  refine ⟨⟨S2, hL, fun k hk => h2 k (k2 k hk), hbel⟩, fun P SP hP hs => ⟨⟨fun k => SP k ∨ S2 k, ⟨SP, S2, hP, hL, fun k hk h => hS2 k h (hs k hk), fun _ => Iff.rfl⟩, ?_, hbel⟩, fun P2 SP2 hP2 hs2 hd => ⟨fun k => SP2 k ∨ (SP k ∨ S2 k), ⟨SP2, fun k => SP k ∨ S2 k, hP2, ⟨SP, S2, hP, hL, fun k hk h => hS2 k h (hs k hk), fun _ => Iff.rfl⟩, ?_, fun _ => Iff.rfl⟩, ?_, hbel⟩⟩⟩
  · rintro k (hk | hk)
    · exact hin k (hs k hk)
    · exact h2 k (k2 k hk)
  · rintro k hk (h | h)
    · exact hd k hk h
    · exact hS2 k h (hs2 k hk)
  · rintro k (hk | hk | hk)
    · exact hin k (hs2 k hk)
    · exact hin k (hs k hk)
    · exact h2 k (k2 k hk)

theorem own_cells {w : World} {base : Nat} {e : TypeId} {size : Nat} {v : Value} {n : Nat} {xs : List Value} (h : w.ownsRow base e size v n xs) (k : Nat) (hk : v.ownBlock = some k) : ∃ o : Obj, w.heap[k]? = some o ∧ o.isCells = true := by
  rcases h.2 with ⟨rfl, _⟩ | ⟨g, cap, cur, rfl, _, hg, _⟩
  · simp [Value.ownBlock] at hk
  · have : g = k := by simpa [Value.ownBlock] using hk
    subst this
    exact ⟨_, hg, rfl⟩

/-- What Open's loop may turn: the journal, the list's box, and what is new. -/
def LT (jb n1 : Nat) (k : Nat) : Prop := k = jb ∨ k = jb + 1 + 1 ∨ n1 ≤ k
def JI (w4 : World) (g jb ee : Nat) (pre : List Tok) (W : World) : Prop :=
  Turns (LT jb w4.heap.size) w4 W ∧ W.heap[jb]? = some (.cells #[.pointer (some ⟨g, 0, none⟩), .int .i64 (pre.length : Int), .int .i64 (bsum pre : Int), .int .i64 (ee : Int), .bool false] 82 (0, 0)) ∧
  (∃ v, W.heap[jb + 1 + 1]? = some (.cells #[v] 64 (0, 0)) ∧ W.ownsRow 0 9 1 v pre.length (pre.map fun x => .string x.s) ∧ ∀ k, v.ownBlock = some k → w4.heap.size ≤ k) ∧ ∀ x ∈ pre, x.ok = true
def LX (g0 jb n1 : Nat) (k : Nat) : Prop := LT jb n1 k ∨ k = g0 ∨ k = g0 + 1 ∨ k = g0 + 1 + 1
def JX (w4 : World) (g0 jb : Nat) (c : Code) (pre : List Tok) (W : World) : Prop :=
  c = .ret ∧ Turns (LX g0 jb w4.heap.size) w4 W ∧ W.heap[g0]? = some (.cells #[.pointer none] 65 (0, 0)) ∧ W.heap[g0 + 1]? = some (.cells #[.slice none 0 0] 64 (0, 0)) ∧ W.heap[g0 + 1 + 1]? = some (.cells #[.int .i64 11] 44 (0, 0)) ∧ ∃ x ∈ pre, x.ok = false

theorem kept_cells {W W' : World} {row : Option Nat} {B k : Nat} {o : Obj} (hg : W.grownBy W' row) (hr : ∀ r, row = some r → B ≤ r ∧ ∃ o : Obj, W.heap[r]? = some o ∧ o.isCells = false) (h : W.heap[k]? = some o) (ho : o.isCells = true) : W'.heap[k]? = some o :=
  (hg.block k (lt_of_block h) (fun e => by
    obtain ⟨_, o', h', ho'⟩ := hr k e.symm
    rw [h] at h'
    injection h' with h'
    subst h'
    rw [ho] at ho'
    cases ho')).trans h
theorem kept_own {W W' : World} {row : Option Nat} {B : Nat} {e : TypeId} {size n : Nat} {v : Value} {xs : List Value} (hg : W.grownBy W' row) (hr : ∀ r, row = some r → B ≤ r ∧ ∃ o : Obj, W.heap[r]? = some o ∧ o.isCells = false) (h : W.ownsRow 0 e size v n xs) : W'.ownsRow 0 e size v n xs :=
  (grownBy_turns hg).own h fun k hk e => by
    obtain ⟨_, o', h', ho'⟩ := hr k e
    obtain ⟨o, h1, h2⟩ := own_cells h k hk
    rw [h1] at h'
    injection h' with h'
    subst h'
    rw [h2] at ho'
    cases ho'

theorem JI.own (w4 : World) (g jb ee : Nat) : OwnFrom w4.heap.size (JI w4 g jb ee) := by
  rintro pre W W' row ⟨h1, h2, ⟨v, h3, h4, h5⟩, h6⟩ hg hr
  exact ⟨h1.grown hg fun k hk => .inl (.inr (.inr (hr k hk).1)), kept_cells hg hr h2 rfl, ⟨v, kept_cells hg hr h3 rfl, kept_own hg hr h4, h5⟩, h6⟩
theorem JX.own (w4 : World) (g0 jb : Nat) (c : Code) : OwnFrom w4.heap.size (JX w4 g0 jb c) := by
  rintro pre W W' row ⟨h0, h1, h2, h3, h4, h5⟩ hg hr
  exact ⟨h0, h1.grown hg fun k hk => .inl (.inl (.inr (.inr (hr k hk).1))), kept_cells hg hr h2 rfl, kept_cells hg hr h3 rfl, kept_cells hg hr h4 rfl, h5⟩

theorem turnsK_b {T : Nat → Prop} {n1 : Nat} (hT : ∀ k, n1 ≤ k → T k) (W : World) (l : Nat) (o o' : Obj) (hl : n1 ≤ l) (_ : W.heap[l]? = some o) (_ : o.isCells = false) (_ : o.isWalk = false) : Turns T W (W.putObj l o') :=
  (Turns.refl T W).grown (grownBy_putObj' W l o') fun k hk => .inl (by cases hk; exact hT _ hl)

theorem str_info : (Try.prog.info? 9).map (fun i => (i.zero, i.size, i.bytes)) = some (some (.string ⟨#[]⟩), 1, 16) := by kernel_rfl
theorem bsum_snoc (l : List Tok) (x : Tok) : bsum (l ++ [x]) = bsum l + x.s.size + 16 := by
  induction l with
  | nil => simp [bsum]
  | cons a l ih => simp only [List.cons_append, bsum, ih]; omega
theorem bsum_le (l : List Tok) : bsum l ≤ l.length * 4294967312 := by
  induction l with
  | nil => simp [bsum]
  | cons a l ih => simp only [bsum, List.length_cons]; have := a.le; omega

theorem JI.step {w4 W w5 w7 : World} {g jb ee : Nat} {pre : List Tok} {xb : ByteArray} {xl : xb.size ≤ 4294967296} {v v' : Value} (hI1 : Turns (LT jb w4.heap.size) w4 W)
    (hI2 : W.heap[jb]? = some (.cells #[.pointer (some ⟨g, 0, none⟩), .int .i64 (pre.length : Int), .int .i64 (bsum pre : Int), .int .i64 (ee : Int), .bool false] 82 (0, 0)))
    (hI3 : W.heap[jb + 1 + 1]? = some (.cells #[v] 64 (0, 0))) (hI4 : W.ownsRow 0 9 1 v pre.length (pre.map fun x => .string x.s)) (hI5 : ∀ k, v.ownBlock = some k → w4.heap.size ≤ k) (hI6 : ∀ x ∈ pre, x.ok = true) (hjb : jb + 1 + 1 < w4.heap.size)
    (hb : Below W.drew.heap.size W.drew w5) (hown : w7.ownsRow 0 9 1 v' (pre.length + 1) ((pre.map fun x => .string x.s) ++ [.string xb])) (hg : (w5.alloc (.cells #[.string xb] 9)).grownBy w7 v.ownBlock) (hat : v'.ownBlock = v.ownBlock ∨ v'.ownBlock = some (w5.alloc (.cells #[.string xb] 9)).heap.size) :
    w7.heap[jb + 1 + 1]? = some (.cells #[v] 64 (0, 0)) ∧ w7.heap[jb]? = some (.cells #[.pointer (some ⟨g, 0, none⟩), .int .i64 (pre.length : Int), .int .i64 (bsum pre : Int), .int .i64 (ee : Int), .bool false] 82 (0, 0)) ∧ w7.heap[jb + 1]? = W.heap[jb + 1]? ∧
    Hid (KeepsFrom w4.heap.size W (((w7.setCell ⟨jb + 1 + 1, 0, none⟩ v').setCell ⟨jb, 1, none⟩ (.int .i64 ((pre.length : Int) + 1))).setCell ⟨jb, 2, none⟩ (.int .i64 ((bsum pre : Int) + ((xb.size : Int) + 16)))) ∧
      Turns (LT jb w4.heap.size) W (((w7.setCell ⟨jb + 1 + 1, 0, none⟩ v').setCell ⟨jb, 1, none⟩ (.int .i64 ((pre.length : Int) + 1))).setCell ⟨jb, 2, none⟩ (.int .i64 ((bsum pre : Int) + ((xb.size : Int) + 16)))) ∧
      JI w4 g jb ee (pre ++ [⟨xb, true, xl⟩]) (((w7.setCell ⟨jb + 1 + 1, 0, none⟩ v').setCell ⟨jb, 1, none⟩ (.int .i64 ((pre.length : Int) + 1))).setCell ⟨jb, 2, none⟩ (.int .i64 ((bsum pre : Int) + ((xb.size : Int) + 16))))) := by
  have hb' : Below W.heap.size W w5 := ⟨hb.os, hb.tape, hb.output, hb.size, hb.block⟩
  have hsz := hI1.size
  have hs5 := hb'.size
  have t7n : Turns (fun k => v.ownBlock = some k) W w7 := (((Turns.below (S := fun k => v.ownBlock = some k) hb').alloc _).grown hg fun k hk => .inl hk)
  have e1 : w7.heap[jb + 1 + 1]? = some (.cells #[v] 64 (0, 0)) := t7n.is hI3 fun e => by have := hI5 _ e; omega
  have e2 := t7n.is hI2 fun e => by have := hI5 _ e; omega
  have e3 : w7.heap[jb + 1]? = W.heap[jb + 1]? := t7n.block _ (by omega) fun e => by have := hI5 _ e; omega
  refine ⟨e1, e2, e3, ?_⟩
  have hv' : ∀ k, v'.ownBlock = some k → w4.heap.size ≤ k := by
    intro k hk
    rcases hat with h | h
    · exact hI5 k (h.symm.trans hk)
    · rw [hk] at h
      injection h with h
      rw [World.size_alloc] at h
      omega
  have t8 : Turns (fun k => k = jb + 1 + 1 ∨ k = jb) w7 (((w7.setCell ⟨jb + 1 + 1, 0, none⟩ v').setCell ⟨jb, 1, none⟩ (.int .i64 ((pre.length : Int) + 1))).setCell ⟨jb, 2, none⟩ (.int .i64 ((bsum pre : Int) + ((xb.size : Int) + 16)))) :=
    Turns.setCell (p := ⟨jb, 2, none⟩) (Turns.setCell (p := ⟨jb, 1, none⟩) (Turns.setCell (p := ⟨jb + 1 + 1, 0, none⟩) (Turns.refl _ w7) (.inl (.inl rfl)) _) (.inl (.inr rfl)) _) (.inl (.inr rfl)) _
  have hB1 := Below.heap_setCell ((w7.setCell ⟨jb + 1 + 1, 0, none⟩ v').setCell ⟨jb, 1, none⟩ (.int .i64 ((pre.length : Int) + 1))) ⟨jb, 2, none⟩ (.int .i64 ((bsum pre : Int) + ((xb.size : Int) + 16))) (jb + 1 + 1) (by dsimp only; omega)
  have hB2 := Below.heap_setCell (w7.setCell ⟨jb + 1 + 1, 0, none⟩ v') ⟨jb, 1, none⟩ (.int .i64 ((pre.length : Int) + 1)) (jb + 1 + 1) (by dsimp only; omega)
  have hL := heap_setCell_same w7 (jb + 1 + 1) 0 _ _ v' e1
  have hJ0 : (w7.setCell ⟨jb + 1 + 1, 0, none⟩ v').heap[jb]? = _ := (Below.heap_setCell w7 ⟨jb + 1 + 1, 0, none⟩ v' jb (by dsimp only; omega)).trans e2
  have hJ1 := heap_setCell_same _ jb 1 _ _ (.int .i64 ((pre.length : Int) + 1)) hJ0
  have hJ2 := heap_setCell_same _ jb 2 _ _ (.int .i64 ((bsum pre : Int) + ((xb.size : Int) + 16))) hJ1
  generalize hw9 : (((w7.setCell ⟨jb + 1 + 1, 0, none⟩ v').setCell ⟨jb, 1, none⟩ (.int .i64 ((pre.length : Int) + 1))).setCell ⟨jb, 2, none⟩ (.int .i64 ((bsum pre : Int) + ((xb.size : Int) + 16)))) = w9 at *
  have hL9 : w9.heap[jb + 1 + 1]? = some (.cells #[v'] 64 (0, 0)) := by rw [hB1, hB2, hL]; rfl
  have hJ9 : w9.heap[jb]? = some (.cells #[.pointer (some ⟨g, 0, none⟩), .int .i64 ((pre ++ [(⟨xb, true, xl⟩ : Tok)]).length : Int), .int .i64 (bsum (pre ++ [⟨xb, true, xl⟩]) : Int), .int .i64 (ee : Int), .bool false] 82 (0, 0)) := by
    rw [hJ2, bsum_snoc, List.length_append]
    simp
    omega
  have tAll : Turns (LT jb w4.heap.size) W w9 := (t7n.mono fun k _ hk => .inr (.inr (hI5 k hk))).trans t8 fun i hi => .inl (by rcases hi with h | h; exact .inr (.inl h); exact .inl h)
  refine ⟨⟨tAll.size, ?_⟩, tAll, hI1.trans tAll fun i hi => .inl hi, hJ9, ⟨v', hL9, ?_, hv'⟩, ?_⟩
  · intro k o _ hk ho
    have h7 : w7.heap[k]? = some o := t7n.is hk fun e => by
      obtain ⟨o', h1, h2⟩ := own_cells hI4 k e
      rw [hk] at h1
      injection h1 with h1
      subst h1
      rw [ho] at h2
      cases h2
    refine t8.is h7 ?_
    rintro (rfl | rfl)
    · rw [e1] at h7; injection h7 with h7; subst h7; cases ho
    · rw [e2] at h7; injection h7 with h7; subst h7; cases ho
  · have h9 := t8.own hown fun k hk e => by
      have := hv' k hk
      rcases e with rfl | rfl <;> omega
    simpa using h9
  · intro x hx
    rcases List.mem_append.1 hx with h | h
    · exact hI6 x h
    · rw [List.mem_singleton.1 h]

theorem JX.step {w4 W : World} {g g0 jb ee : Nat} {pre : List Tok} {xb : ByteArray} {xl : xb.size ≤ 4294967296} {a b c : Value} (hI : JI w4 g jb ee pre W) (h0 : W.heap[g0]? = some (.cells #[a] 65 (0, 0))) (h1 : W.heap[g0 + 1]? = some (.cells #[b] 64 (0, 0))) (h2 : W.heap[g0 + 1 + 1]? = some (.cells #[c] 44 (0, 0))) :
    Hid (KeepsFrom w4.heap.size W (((W.setCell ⟨g0, 0, none⟩ (.pointer none)).setCell ⟨g0 + 1, 0, none⟩ (.slice none 0 0)).setCell ⟨g0 + 1 + 1, 0, none⟩ (.int .i64 11)) ∧
      JX w4 g0 jb .ret (pre ++ [⟨xb, false, xl⟩]) (((W.setCell ⟨g0, 0, none⟩ (.pointer none)).setCell ⟨g0 + 1, 0, none⟩ (.slice none 0 0)).setCell ⟨g0 + 1 + 1, 0, none⟩ (.int .i64 11))) := by
  have t : Turns (fun k => k = g0 ∨ k = g0 + 1 ∨ k = g0 + 1 + 1) W (((W.setCell ⟨g0, 0, none⟩ (.pointer none)).setCell ⟨g0 + 1, 0, none⟩ (.slice none 0 0)).setCell ⟨g0 + 1 + 1, 0, none⟩ (.int .i64 11)) :=
    Turns.setCell (p := ⟨g0 + 1 + 1, 0, none⟩) (Turns.setCell (p := ⟨g0 + 1, 0, none⟩) (Turns.setCell (p := ⟨g0, 0, none⟩) (Turns.refl _ W) (.inl (.inl rfl)) _) (.inl (.inr (.inl rfl))) _) (.inl (.inr (.inr rfl))) _
  have a0 := heap_setCell_same W g0 0 _ _ (.pointer none) h0
  have a1 := (Below.heap_setCell W ⟨g0, 0, none⟩ (.pointer none) (g0 + 1) (by dsimp only; omega)).trans h1
  have a2 := (Below.heap_setCell W ⟨g0, 0, none⟩ (.pointer none) (g0 + 1 + 1) (by dsimp only; omega)).trans h2
  have b1 := heap_setCell_same _ (g0 + 1) 0 _ _ (.slice none 0 0) a1
  have b0 := (Below.heap_setCell (W.setCell ⟨g0, 0, none⟩ (.pointer none)) ⟨g0 + 1, 0, none⟩ (.slice none 0 0) g0 (by dsimp only; omega)).trans a0
  have b2 := (Below.heap_setCell (W.setCell ⟨g0, 0, none⟩ (.pointer none)) ⟨g0 + 1, 0, none⟩ (.slice none 0 0) (g0 + 1 + 1) (by dsimp only; omega)).trans a2
  have c2 := heap_setCell_same _ (g0 + 1 + 1) 0 _ _ (.int .i64 11) b2
  have c0 := (Below.heap_setCell _ ⟨g0 + 1 + 1, 0, none⟩ (.int .i64 11) g0 (by dsimp only; omega)).trans b0
  have c1 := (Below.heap_setCell _ ⟨g0 + 1 + 1, 0, none⟩ (.int .i64 11) (g0 + 1) (by dsimp only; omega)).trans b1
  refine ⟨⟨t.size, fun k o _ hk ho => t.is hk ?_⟩, rfl, (hI.1.mono fun k _ h => .inl h).trans t fun i hi => .inl (.inr hi), c0, c1, c2, ⟨_, List.mem_append_right _ (List.mem_singleton.2 rfl), rfl⟩⟩
  rintro (rfl | rfl | rfl)
  · rw [h0] at hk; injection hk with hk; subst hk; cases ho
  · rw [h1] at hk; injection hk with hk; subst hk; cases ho
  · rw [h2] at hk; injection hk with hk; subst hk; cases ho

/-- An operation that defers nothing goes in a round as everywhere. -/
theorem opIn_of_wp {P : Program} {l n : Nat} {o : Oper} {a : Go.Act} {w : World} {K : Go.Act → World → Prop} {Q : Exit → Go.Act → World → Prop} (hd : ∀ c, o.op ≠ .defer c) (h : Oper.wp P o a w K Q) : Oper.wpIn (Fence.wide.inRound l) n P o a w K Q := by
  refine ⟨fun _ _ => trivial, ?_⟩
  rw [Oper.semAt_plain _ _ _ hd]
  unfold Oper.wp at h
  generalize (execOp a.eval o).run P w = r at *
  unfold Oper.upon at h
  unfold Oper.uponIn
  split at h
  · exact h
  · exact h
  · exact h
  · exact ⟨fun h => by simp [Fence.wide, Fence.inRound] at h, callsIn_wide.2 h⟩
  · exact ⟨fun h => by simp [Fence.wide, Fence.inRound] at h, fun c cs _ => let ⟨v, w', r, s⟩ := h c cs; ⟨v, w', r, stepsIn_wide.2 s⟩⟩
  · exact h
  · exact h.elim
section
variable {w0 w4 W : World} {L : List HP} {g g0 jb rb ee : Nat} {σ : DS} {xs : List Tok} {v : Value}
abbrev OpenL (g g0 jb rb ee : Nat) (σ : DS) (L : List HP) : List HP := bl (rb + 1) 3 #[.int .i64 (ee : Int)] :: bl rb 25 #[.pointer (some ⟨g, 0, none⟩)] :: bl (jb + 1 + 1) 64 #[.slice none 0 0] :: bl (jb + 1) 65 #[.pointer (some ⟨jb, 0, none⟩)] ::
    bl jb 82 #[.pointer (some ⟨g, 0, none⟩), .int .i64 0, .int .i64 0, .int .i64 (ee : Int), .bool false] :: bl (g0 + 1 + 1) 44 #[.int .i64 0] :: bl (g0 + 1) 64 #[.slice none 0 0] :: bl g0 65 #[.pointer none] :: dk g σ :: L
def openB (g g0 jb rb ee : Nat) : List (Nat × TypeId × Array Value) := [(rb + 1, 3, #[.int .i64 (ee : Int)]), (rb, 25, #[.pointer (some ⟨g, 0, none⟩)]), (jb + 1 + 1, 64, #[.slice none 0 0]), (jb + 1, 65, #[.pointer (some ⟨jb, 0, none⟩)]),
    (jb, 82, #[.pointer (some ⟨g, 0, none⟩), .int .i64 0, .int .i64 0, .int .i64 (ee : Int), .bool false]), (g0 + 1 + 1, 44, #[.int .i64 0]), (g0 + 1, 64, #[.slice none 0 0]), (g0, 65, #[.pointer none])]

theorem turns_put (W : World) (D : Nat) (o : Obj) : Turns (· = D) W (W.putObj D o) := (Turns.refl _ W).grown (grownBy_putObj' W D o) fun k hk => .inl (by cases hk; rfl)

theorem openB_mem (k : Nat) (h : k = rb + 1 ∨ k = rb ∨ k = jb + 1 + 1 ∨ k = jb + 1 ∨ k = jb ∨ k = g0 + 1 + 1 ∨ k = g0 + 1 ∨ k = g0) : ∃ b ∈ openB g g0 jb rb ee, b.1 = k := by
  unfold openB
  rcases h with rfl | rfl | rfl | rfl | rfl | rfl | rfl | rfl <;> simp

theorem open_stop (h : At w0 w4 (OpenL g g0 jb rb ee σ L)) (hg : g0 + 1 + 1 < w4.heap.size) (ht : Turns (LX g0 jb w4.heap.size) w4 W) (h0 : W.heap[g0]? = some (.cells #[.pointer none] 65 (0, 0))) (h1 : W.heap[g0 + 1]? = some (.cells #[.slice none 0 0] 64 (0, 0))) (h2 : W.heap[g0 + 1 + 1]? = some (.cells #[.int .i64 11] 44 (0, 0))) (D : Nat) (hD : w4.heap.size ≤ D) (_hK : W.heap[D]? = some (.deferred (some []))) :
    ((W.putObj D (.deferred none)).cell? ⟨g0, 0, none⟩ = some (.pointer none) ∧ (W.putObj D (.deferred none)).cell? ⟨g0 + 1, 0, none⟩ = some (.slice none 0 0) ∧ (W.putObj D (.deferred none)).cell? ⟨g0 + 1 + 1, 0, none⟩ = some (.int .i64 11)) ∧
    At w0 (W.putObj D (.deferred none)) (dk g σ :: L) := by
  have tp := turns_put W D (.deferred none)
  refine ⟨⟨?_, ?_, ?_⟩, ?_⟩
  · rw [cell_of_row _ g0 0 _ _ _ (tp.is h0 (by omega))]; rfl
  · rw [cell_of_row _ (g0 + 1) 0 _ _ _ (tp.is h1 (by omega))]; rfl
  · rw [cell_of_row _ (g0 + 1 + 1) 0 _ _ _ (tp.is h2 (by omega))]; rfl
  · refine (At.drop (L := dk g σ :: L) (openB g g0 jb rb ee) h (ht.trans tp (fun i hi => .inr (by omega)) |>.mono ?_)).1
    rintro k _ ((h | h | h) | h | h | h)
    · exact .inl (openB_mem k (by simp [h]))
    · exact .inl (openB_mem k (by simp [h]))
    · exact .inr h
    · exact .inl (openB_mem k (by simp [h]))
    · exact .inl (openB_mem k (by simp [h]))
    · exact .inl (openB_mem k (by simp [h]))

theorem open_done (h : At w0 w4 (OpenL g g0 jb rb ee σ L)) (hg : g0 + 1 + 1 < w4.heap.size) (hgj : g0 + 1 + 1 < jb) (hj : jb < w4.heap.size) (ht : Turns (LT jb w4.heap.size) w4 W)
    (h2 : W.heap[jb]? = some (.cells #[.pointer (some ⟨g, 0, none⟩), .int .i64 (xs.length : Int), .int .i64 (bsum xs : Int), .int .i64 (ee : Int), .bool false] 82 (0, 0)))
    (h4 : W.ownsRow 0 9 1 v xs.length (xs.map fun x => .string x.s)) (h5 : ∀ k, v.ownBlock = some k → w4.heap.size ≤ k)
    (r0 : W.heap[g0]? = some (.cells #[.pointer none] 65 (0, 0))) (r1 : W.heap[g0 + 1]? = some (.cells #[.slice none 0 0] 64 (0, 0))) (r2 : W.heap[g0 + 1 + 1]? = some (.cells #[.int .i64 0] 44 (0, 0))) (D : Nat) (hD : w4.heap.size ≤ D) (hK : W.heap[D]? = some (.deferred (some []))) :
    (((W.setCell ⟨g0, 0, none⟩ (.pointer (some ⟨jb, 0, none⟩))).setCell ⟨g0 + 1, 0, none⟩ v).setCell ⟨g0 + 1 + 1, 0, none⟩ (.int .i64 0)).drew.heap[D]? = some (.deferred (some [])) ∧
    (((((W.setCell ⟨g0, 0, none⟩ (.pointer (some ⟨jb, 0, none⟩))).setCell ⟨g0 + 1, 0, none⟩ v).setCell ⟨g0 + 1 + 1, 0, none⟩ (.int .i64 0)).drew.putObj D (.deferred none)).cell? ⟨g0, 0, none⟩ = some (.pointer (some ⟨jb, 0, none⟩)) ∧
     ((((W.setCell ⟨g0, 0, none⟩ (.pointer (some ⟨jb, 0, none⟩))).setCell ⟨g0 + 1, 0, none⟩ v).setCell ⟨g0 + 1 + 1, 0, none⟩ (.int .i64 0)).drew.putObj D (.deferred none)).cell? ⟨g0 + 1, 0, none⟩ = some v ∧
     ((((W.setCell ⟨g0, 0, none⟩ (.pointer (some ⟨jb, 0, none⟩))).setCell ⟨g0 + 1, 0, none⟩ v).setCell ⟨g0 + 1 + 1, 0, none⟩ (.int .i64 0)).drew.putObj D (.deferred none)).cell? ⟨g0 + 1 + 1, 0, none⟩ = some (.int .i64 0)) ∧
    At w0 ((((W.setCell ⟨g0, 0, none⟩ (.pointer (some ⟨jb, 0, none⟩))).setCell ⟨g0 + 1, 0, none⟩ v).setCell ⟨g0 + 1 + 1, 0, none⟩ (.int .i64 0)).drew.putObj D (.deferred none))
      (bl jb 82 #[.pointer (some ⟨g, 0, none⟩), .int .i64 (xs.length : Int), .int .i64 (bsum xs : Int), .int .i64 (ee : Int), .bool false] :: sl v (xs.map fun x => x.s.data.toList) :: dk g σ :: L) := by
  have t : Turns (fun k => k = g0 ∨ k = g0 + 1 ∨ k = g0 + 1 + 1) W (((W.setCell ⟨g0, 0, none⟩ (.pointer (some ⟨jb, 0, none⟩))).setCell ⟨g0 + 1, 0, none⟩ v).setCell ⟨g0 + 1 + 1, 0, none⟩ (.int .i64 0)).drew :=
    (Turns.setCell (p := ⟨g0 + 1 + 1, 0, none⟩) (Turns.setCell (p := ⟨g0 + 1, 0, none⟩) (Turns.setCell (p := ⟨g0, 0, none⟩) (Turns.refl _ W) (.inl (.inl rfl)) _) (.inl (.inr (.inl rfl))) _) (.inl (.inr (.inr rfl))) _).drew
  have a0 := heap_setCell_same W g0 0 _ _ (.pointer (some ⟨jb, 0, none⟩)) r0
  have a1 := (Below.heap_setCell W ⟨g0, 0, none⟩ (.pointer (some ⟨jb, 0, none⟩)) (g0 + 1) (by dsimp only; omega)).trans r1
  have a2 := (Below.heap_setCell W ⟨g0, 0, none⟩ (.pointer (some ⟨jb, 0, none⟩)) (g0 + 1 + 1) (by dsimp only; omega)).trans r2
  have b1 := heap_setCell_same _ (g0 + 1) 0 _ _ v a1
  have b0 := (Below.heap_setCell _ ⟨g0 + 1, 0, none⟩ v g0 (by dsimp only; omega)).trans a0
  have b2 := (Below.heap_setCell _ ⟨g0 + 1, 0, none⟩ v (g0 + 1 + 1) (by dsimp only; omega)).trans a2
  have c2 := heap_setCell_same _ (g0 + 1 + 1) 0 _ _ (.int .i64 0) b2
  have c0 := (Below.heap_setCell _ ⟨g0 + 1 + 1, 0, none⟩ (.int .i64 0) g0 (by dsimp only; omega)).trans b0
  have c1 := (Below.heap_setCell _ ⟨g0 + 1 + 1, 0, none⟩ (.int .i64 0) (g0 + 1) (by dsimp only; omega)).trans b1
  change (((W.setCell ⟨g0, 0, none⟩ (.pointer (some ⟨jb, 0, none⟩))).setCell ⟨g0 + 1, 0, none⟩ v).setCell ⟨g0 + 1 + 1, 0, none⟩ (.int .i64 0)).drew.heap[g0]? = _ at c0
  change (((W.setCell ⟨g0, 0, none⟩ (.pointer (some ⟨jb, 0, none⟩))).setCell ⟨g0 + 1, 0, none⟩ v).setCell ⟨g0 + 1 + 1, 0, none⟩ (.int .i64 0)).drew.heap[g0 + 1]? = _ at c1
  change (((W.setCell ⟨g0, 0, none⟩ (.pointer (some ⟨jb, 0, none⟩))).setCell ⟨g0 + 1, 0, none⟩ v).setCell ⟨g0 + 1 + 1, 0, none⟩ (.int .i64 0)).drew.heap[g0 + 1 + 1]? = _ at c2
  generalize (((W.setCell ⟨g0, 0, none⟩ (.pointer (some ⟨jb, 0, none⟩))).setCell ⟨g0 + 1, 0, none⟩ v).setCell ⟨g0 + 1 + 1, 0, none⟩ (.int .i64 0)).drew = W1 at *
  have tp := turns_put W1 D (.deferred none)
  have hsz := ht.size
  have hr9 : (xs.map fun x => (.string x.s : Value)) = (xs.map fun x => x.s.data.toList).map fun s => .string (str s) := by
    rw [List.map_map]
    apply List.map_congr_left
    intro x _
    rfl
  refine ⟨t.is hK (by omega), ⟨?_, ?_, ?_⟩, ?_⟩
  · rw [cell_of_row _ g0 0 _ _ _ (tp.is c0 (by omega))]; rfl
  · rw [cell_of_row _ (g0 + 1) 0 _ _ _ (tp.is c1 (by omega))]; rfl
  · rw [cell_of_row _ (g0 + 1 + 1) 0 _ _ _ (tp.is c2 (by omega))]; rfl
  · have hT : Turns (fun k => (∃ b ∈ openB g g0 jb rb ee, b.1 = k) ∨ w4.heap.size ≤ k) w4 (W1.putObj D (.deferred none)) := by
      refine Turns.trans (T := fun k => (k = g0 ∨ k = g0 + 1 ∨ k = g0 + 1 + 1) ∨ w4.heap.size ≤ k) (ht.mono ?_) ((t.mono fun k _ h => .inl h).trans tp fun i hi => .inl (.inr (by omega))) ?_
      · rintro k _ (h | h | h)
        · exact .inl (openB_mem k (by simp [h]))
        · exact .inl (openB_mem k (by simp [h]))
        · exact .inr h
      · rintro k ((h | h | h) | h)
        · exact .inl (.inl (openB_mem k (by simp [h])))
        · exact .inl (.inl (openB_mem k (by simp [h])))
        · exact .inl (.inl (openB_mem k (by simp [h])))
        · exact .inr h
    have hrow := tp.own (t.own h4 fun k hk e => by have := h5 k hk; omega) fun k hk e => by
      obtain ⟨o, k1, k2⟩ := own_cells h4 k hk
      subst e
      rw [hK] at k1
      injection k1 with k1
      subst k1
      cases k2
    have hlen : xs.length = (xs.map fun x => x.s.data.toList).length := by simp
    rw [hr9, hlen] at hrow
    refine ((At.drop (L := dk g σ :: L) (openB g g0 jb rb ee) h hT).2 (sl v (xs.map fun x => x.s.data.toList)) (fun k => v.ownBlock = some k) ⟨hrow, fun _ => Iff.rfl⟩ fun k hk => .inr (h5 k hk)).2 (bl jb 82 _) (· = jb) ⟨tp.is (t.is h2 (by omega)) (by omega), fun _ => Iff.rfl⟩ ?_ ?_
    · rintro k rfl
      exact .inl (openB_mem k (by simp))
    · rintro k rfl hk
      have := h5 k hk
      omega
end

theorem wp_builtin_run {P : Program} {o : Oper} {a : Go.Act} {w : World} {K : Go.Act → World → Prop} {Q : Exit → Go.Act → World → Prop} (s x : Operand) (t : TypeId)
    (ho : o.op = .call { callee := .builtin .append, args := #[s, x], argTypes := #[t, t] }) (v vx : Value) (hs : a.eval s = v) (hx : a.eval x = vx) (v' : Value) (w' : World)
    (hrun : (Builtin.append_ #[t, t] o.type #[v, vx]).run P w = .ok v' w') (h : K (a.put o.dst v') w') : o.wp P a w K Q := by
  unfold Oper.wp execOp
  simp only [ho, resolve, invoke, builtin, Sem.run_bind, Sem.run_pure, Result.andThen_ok, List.map_toArray, List.map_cons, List.map_nil, hs, hx, hrun]
  exact h

set_option maxRecDepth 100000 in
set_option maxHeartbeats 2000000 in
theorem open_loop {w0 w : World} {L : List HP} {g : Nat} {σ : DS} (h : At w0 w (dk g σ :: L)) (hn : σ.n < 100000) (ho : σ.off = false) (hb : headOk σ.now) (ee : Nat) (hE : 64 + valN (rd σ.now 0 8) 8 = (ee : Int)) (xs : List Tok) (hxs : xs.map Tok.pair = tokL σ.now 64 ee) :
    Calls Try.prog 41 #[.pointer (some ⟨g, 0, none⟩)] w (OpenEnd w0 (dk g σ.sync :: L) g xs ee) := by
  have HR := Lib.hid (show str (σ.sync.read 0 8) = str (rd σ.now 0 8) by rw [show (0 : Int) = ((0 : Nat) : Int) from rfl, show (8 : Int) = ((8 : Nat) : Int) from rfl, read_rd]; unfold DS.sync; rw [ho]; rfl)
  have HL := Lib.hid (show σ.sync.now = σ.now by unfold DS.sync; rw [ho]; rfl)
  have hsz := h.disk 0 rfl
  obtain ⟨S, hd⟩ := hsz
  have hlen := hd.ok.now
  clear hd
  refine (callsIn_wide (n := 5)).1 ?_
  refine callsIn_of_wp_marks Try.func41 rfl trivial ?_ rfl
  simp only [Try.ntmps41, List.size_toArray, List.length_cons, List.length_nil, Nat.reduceAdd, Nat.reduceSub, Array.replicate_succ, Array.replicate_zero, List.push_toArray, List.append_toArray, List.nil_append, List.cons_append]
  refine wpIn_wide.2 ?_
  have H0 := Lib.hid (at_alloc (at_alloc (at_alloc h 65 #[.pointer none]) 64 #[.slice none 0 0]) 44 #[.int .i64 0])
  clear h
  obtain ⟨g0, hg0⟩ : ∃ g0, w.heap.size = g0 := ⟨_, rfl⟩
  simp only [World.size_alloc, hg0] at H0
  go_wp2_with fail
  refine (at_sync_c H0.out 3 rfl hn 0 (by unfold DS.syncE; rw [ho]; rfl) σ.sync rfl).mono ?_
  rintro e w1 ⟨rfl, h1⟩
  generalize (((w.alloc (.cells #[.pointer none] 65)).alloc (.cells #[.slice none 0 0] 64)).alloc (.cells #[.int .i64 0] 44)) = wx at *
  have H1 := Lib.hid h1
  clear h1 H0
  go_wp2_with fail
  refine (at_read_c H1.out 3 rfl 0 8 _ HR.out).mono ?_
  rintro e w2 ⟨rfl, h2⟩
  have H2 := Lib.hid h2
  clear h2 H1
  go_wp2_with fail
  refine (value_any _ 8 (by omega) _).mono ?_
  rintro e w2' ⟨rfl, rfl⟩
  rw [str_data]
  unfold headOk at hb
  have HX := Lib.hid hxs
  clear hxs
  obtain ⟨nn, hnn⟩ : ∃ nn : Nat, valN (rd σ.now 0 8) 8 = (nn : Int) := ⟨(valN (rd σ.now 0 8) 8).toNat, by omega⟩
  rw [hnn] at hb hE ⊢
  clear hnn
  obtain ⟨-, hb1, hb2⟩ := hb
  have hee0 : 64 ≤ ee := by omega
  have hee1 : ee ≤ 100000000 := by omega
  have hcase : (nn : Int) = 0 ∨ ((0 : Int) < (nn : Int) ∧ ¬ ((σ.now.length : Int) < (ee : Int))) := by omega
  clear hb2
  rcases hcase with hz | ⟨hpos, hle⟩
  · have hz2 : ¬ ((0 : Int) < (nn : Int)) := by omega
    clear hz
    have H3 := Lib.hid (at_alloc (at_alloc (at_alloc H2.out 82 #[.pointer (some ⟨g, 0, none⟩), .int .i64 0, .int .i64 0, .int .i64 (ee : Int), .bool false]) 65 #[.pointer (some ⟨w2.heap.size, 0, none⟩)]) 64 #[.slice none 0 0])
    obtain ⟨jb, hjb⟩ : ∃ jb, w2.heap.size = jb := ⟨_, rfl⟩
    simp only [World.size_alloc, hjb] at H3
    go_wp2_with fail
    generalize ((w2.alloc (.cells #[.pointer (some ⟨g, 0, none⟩), .int .i64 0, .int .i64 0, .int .i64 (ee : Int), .bool false] 82)).alloc (.cells #[.pointer (some ⟨jb, 0, none⟩)] 65)).alloc (.cells #[.slice none 0 0] 64) = w3 at *
    have hg02 : g0 + 1 + 1 < jb := by rw [← hjb]; exact lt_of_block (H2.out.block 0 rfl)
    have hjb2 : jb + 1 + 1 < w3.heap.size := by exact lt_of_block (H3.out.block 0 rfl)
    clear H2 hjb
    refine (records_any w3 (some ⟨g, 0, none⟩) (ee : Int)).mono ?_
    rintro e w4 ⟨rfl, hw4⟩
    have H4 := Lib.hid (at_alloc (at_alloc H3.out 25 #[.pointer (some ⟨g, 0, none⟩)]) 3 #[.int .i64 (ee : Int)])
    simp only [World.size_alloc] at H4
    rw [← hw4] at H4
    have hs4 : w4.heap.size = w3.heap.size + 1 + 1 := by rw [hw4]; simp
    clear hw4 H3
    generalize w3.heap.size = rb at *
    have b1 := H4.out.block 0 rfl
    have b2 := H4.out.block 1 rfl
    have HXL : Hid (xs.length ≤ 100000000) := by
      show xs.length ≤ 100000000
      have h1 := congrArg List.length HX.out
      have h2 := tok_len σ.now ee 64 ee (by omega)
      simp only [List.length_map, tokL] at h1
      omega
    have hTg : ∀ k, k ≠ jb ∧ k ≠ jb + 1 + 1 ∧ k < rb + 1 + 1 → ¬ LT jb w4.heap.size k := by
      rintro k ⟨h1, h2, h3⟩ (h | h | h) <;> omega
    obtain ⟨S4, hD4, hA4⟩ := H4.out.apart 8 rfl
    have hS4 : ∀ k, S4 k → ¬ LT jb w4.heap.size k := by
      rintro k hk (h | h | h)
      · subst h; exact hA4 4 _ _ _ (by decide) rfl hk
      · subst h; exact hA4 2 _ _ _ (by decide) rfl hk
      · have := hD4.lt k hk; omega
    have hT1 := hTg (rb + 1) (by omega)
    have hT2 := hTg rb (by omega)
    have HSQ := Lib.hid (rec_stops 4 (by omega) (rb + 1) rb g ee σ.sync S4 (LT jb w4.heap.size) hS4 hT1 hT2 hee0 hee1 xs (by rw [HL.out]; exact HX.out) w4 b1 b2 hD4)
    have HI0 : Hid (JI w4 g jb ee [] w4) := ⟨Turns.refl _ _, H4.out.block 4 rfl, ⟨_, H4.out.block 2 rfl, World.ownsRow_nil _ _ _ _, fun k hk => by simp [Value.ownBlock] at hk⟩, fun _ h => by cases h⟩
    clear b1 b2 hD4 hS4 hT1 hT2
    go_wp2_with fail
    refine wpIn_wide (n := 5).1 ?_
    refine wpIn_rangeFunc_ownG (w0 := w4) rfl (by omega) (gf := 67) (lb := #[.pointer (some ⟨rb + 1, 0, none⟩), .pointer (some ⟨rb, 0, none⟩)]) rfl trivial (enters_of Try.func67 (by kernel_rfl) rfl) HSQ.out
      (fun h k => h.trans k fun i hi => .inl hi) (turnsK_b fun k hk => .inr (.inr hk)) (Below.refl _ _) (fun _ => rfl) (JI w4 g jb ee) (JX w4 g0 jb) (JI.own _ _ _ _) (JX.own _ _ _) HI0.out ?a1Z ?assignZ ?bodyZ ?doneZ ?stopZ
    case assignZ =>
      intro l x W K hK
      unfold Tok.vals
      gi_wp2
      exact hK
    case bodyZ =>
      rintro l pre ⟨xb, xo, xl⟩ W hI hlt
      have HJI := Lib.hid hI
      obtain ⟨hI1, hI2, ⟨v, hI3, hI4, hI5⟩, hI6⟩ := hI
      have hpl : pre.length ≤ 100000000 := by have := HXL.out; omega
      have hbs := bsum_le pre
      have hsz := hI1.size
      have r0 := hI1.is (H4.out.block 7 rfl) (hTg g0 (by omega))
      have r1 := hI1.is (H4.out.block 6 rfl) (hTg (g0 + 1) (by omega))
      have r2 := hI1.is (H4.out.block 5 rfl) (hTg (g0 + 1 + 1) (by omega))
      have hbox := hI1.is (H4.out.block 3 rfl) (hTg (jb + 1) (by omega))
      have HS4 := Lib.hid hs4
      cases xo with
      | false =>
        have s4 := JX.step (xb := xb) (xl := xl) HJI.out r0 r1 r2
        have z0 := cell_of_row W g0 0 _ _ _ r0
        have z1 := cell_of_row W (g0 + 1) 0 _ _ _ r1
        have z2 := cell_of_row W (g0 + 1 + 1) 0 _ _ _ r2
        have y0 := frozen_of_row W g0 0 _ _ r0
        have y1 := frozen_of_row W (g0 + 1) 0 _ _ r1
        have y2 := frozen_of_row W (g0 + 1 + 1) 0 _ _ r2
        simp at z0 z1 z2
        clear hI1 hI2 hI3 hI4 hI5 hI6 r0 r1 r2 hbox hs4 hsz
        gi_wp2_with fail
        exact s4.out
      | true =>
        obtain ⟨i0, hi, hz0, hz1, hz2⟩ := info_parts str_info
        have cl := cell_of_row W (jb + 1 + 1) 0 _ _ _ hI3
        simp at cl
        have mkstep := fun {w5 w7 : World} {v' : Value} => JI.step (w5 := w5) (w7 := w7) (v' := v') (xb := xb) (xl := xl) hI1 hI2 hI3 hI4 hI5 hI6 (by omega)
        have kept5 : ∀ {w5 : World}, Below W.drew.heap.size W.drew w5 → (w5.alloc (.cells #[.string xb] 9)).ownsRow 0 9 1 v pre.length (pre.map fun x => .string x.s) := fun {w5} hb => ((Turns.below (S := No) (w := W) ⟨hb.os, hb.tape, hb.output, hb.size, hb.block⟩).own hI4 fun _ _ => id).alloc _
        have kc5 : ∀ {w5 : World}, Below W.drew.heap.size W.drew w5 → w5.cell? ⟨jb + 1 + 1, 0, none⟩ = some v := fun {w5} hb => (hb.cell (p := ⟨jb + 1 + 1, 0, none⟩) (lt_of_block hI3)).trans cl
        have kc6 : ∀ {w5 : World}, Below W.drew.heap.size W.drew w5 → (w5.alloc (.cells #[.string xb] 9)).cell? ⟨jb + 1 + 1, 0, none⟩ = some v := fun {w5} hb => ((Turns.refl No w5).alloc _ |>.cell (p := ⟨jb + 1 + 1, 0, none⟩) (Nat.lt_of_lt_of_le (lt_of_block hI3) hb.size) id).trans (kc5 hb)
        clear hI1 hI2 hI3 hI4 hI5 hI6 r0 r1 r2 hs4 hsz
        gi_wp2_with fail
        refine wpIn_region_any (by kernel_rfl) ?_
        change wpAnyIn _ _ _ _ _ _ _ _ _ (World.drew _)
        refine wpAnyIn_ready (rs := [0, 1]) (by kernel_rfl) (by simp) ?_
        refine AllReadyIn.cons rfl (fun K hK => ?_) ?_
        · skip
          go_simp
          refine hK _ _ ?_
          clear hK K
          refine wpAnyIn_ready (rs := [1]) (by kernel_rfl) (by simp) ?_
          refine AllReadyIn.cons rfl (fun K hK => ?_) AllReadyIn.nil
          go_simp
          refine hK _ _ ?_
          clear hK K
          refine wpAnyIn_ready (rs := [2]) (by kernel_rfl) (by simp) ?_
          refine AllReadyIn.cons rfl (fun K hK => ?_) AllReadyIn.nil
          go_simp
          refine ⟨trivial, (CallsIn.inRound l (callsW (clone_any xb W.drew (by omega)))).mono ?_⟩
          rintro e5 w5 ⟨rfl, hb5⟩
          obtain ⟨v', w7, hrun, hown7, hg7, hat7⟩ := run_append_onto (P := Try.prog) (w5.alloc (.cells #[.string xb] 9)) 64 64 9 i0 (.string ⟨#[]⟩) 1 16 Try.underlying64 hi hz0 hz1 hz2 rfl (by decide) v pre.length (pre.map fun x => .string x.s) (kept5 hb5) (.slice (some ⟨w5.heap.size, 0, none⟩) 1 1) 1 [.string xb] (reads_new w5 9 [.string xb] 1 1 1 rfl) (by simp [Value.oneCell']) (by simp only [maxLen]; omega) (by omega)
          obtain ⟨s1, s2, s3, s4⟩ := mkstep hb5 hown7 hg7 hat7
          obtain ⟨A7, c7, hv7, _⟩ := own_slice hown7
          subst hv7
          have cl5 := kc5 hb5
          have cl6 := kc6 hb5
          have cl7 := cell_of_row w7 (jb + 1 + 1) 0 _ _ _ s1
          have fl7 := frozen_of_row w7 (jb + 1 + 1) 0 _ _ s1
          have q0 := cell_of_row w7 (jb + 1) 0 _ _ _ (s3.trans hbox)
          have q1 := cell_of_row w7 jb 1 _ _ _ s2
          have q2 := cell_of_row w7 jb 2 _ _ _ s2
          have p1 := frozen_of_row w7 jb 1 _ _ s2
          have p2 := frozen_of_row w7 jb 2 _ _ s2
          simp at cl7 q0 q1 q2
          have HRUN := Lib.hid hrun
          clear hrun s1 s2 s3 hown7 hg7 hat7 hb5
          refine hK _ _ ?_
          clear hK K
          refine wpAnyIn_ready (rs := [3]) (by kernel_rfl) (by simp) ?_
          refine AllReadyIn.cons rfl (fun K hK => ?_) AllReadyIn.nil
          go_simp
          refine hK _ _ ?_
          clear hK K
          refine wpAnyIn_ready (rs := [4]) (by kernel_rfl) (by simp) ?_
          refine AllReadyIn.cons rfl (fun K hK => ?_) AllReadyIn.nil
          rw [if_pos (by rfl)]
          refine opIn_of_wp (by intro c h; cases h) ?_
          refine wp_builtin_run _ _ 64 rfl _ _ rfl rfl _ _ HRUN.out ?_
          refine hK _ _ ?_
          clear hK K HRUN
          simp only [Go.Act.put, List.setIfInBounds_toArray]
          refine wpAnyIn_ready (rs := [5]) (by kernel_rfl) (by simp) ?_
          refine AllReadyIn.cons rfl (fun K hK => ?_) AllReadyIn.nil
          go_simp
          refine hK _ _ ?_
          clear hK K
          refine wpAnyIn_done (by kernel_rfl) ?_ _
          gi_wp2_with fail
          exact s4.out
        refine AllReadyIn.cons rfl (fun K hK => ?_) AllReadyIn.nil
        go_simp
        refine hK _ _ ?_
        clear hK K
        refine wpAnyIn_ready (rs := [0, 2]) (by kernel_rfl) (by simp) ?_
        refine AllReadyIn.cons rfl (fun K hK => ?_) ?_
        · skip
          go_simp
          refine hK _ _ ?_
          clear hK K
          refine wpAnyIn_ready (rs := [2]) (by kernel_rfl) (by simp) ?_
          refine AllReadyIn.cons rfl (fun K hK => ?_) AllReadyIn.nil
          go_simp
          refine ⟨trivial, (CallsIn.inRound l (callsW (clone_any xb W.drew (by omega)))).mono ?_⟩
          rintro e5 w5 ⟨rfl, hb5⟩
          obtain ⟨v', w7, hrun, hown7, hg7, hat7⟩ := run_append_onto (P := Try.prog) (w5.alloc (.cells #[.string xb] 9)) 64 64 9 i0 (.string ⟨#[]⟩) 1 16 Try.underlying64 hi hz0 hz1 hz2 rfl (by decide) v pre.length (pre.map fun x => .string x.s) (kept5 hb5) (.slice (some ⟨w5.heap.size, 0, none⟩) 1 1) 1 [.string xb] (reads_new w5 9 [.string xb] 1 1 1 rfl) (by simp [Value.oneCell']) (by simp only [maxLen]; omega) (by omega)
          obtain ⟨s1, s2, s3, s4⟩ := mkstep hb5 hown7 hg7 hat7
          obtain ⟨A7, c7, hv7, _⟩ := own_slice hown7
          subst hv7
          have cl5 := kc5 hb5
          have cl6 := kc6 hb5
          have cl7 := cell_of_row w7 (jb + 1 + 1) 0 _ _ _ s1
          have fl7 := frozen_of_row w7 (jb + 1 + 1) 0 _ _ s1
          have q0 := cell_of_row w7 (jb + 1) 0 _ _ _ (s3.trans hbox)
          have q1 := cell_of_row w7 jb 1 _ _ _ s2
          have q2 := cell_of_row w7 jb 2 _ _ _ s2
          have p1 := frozen_of_row w7 jb 1 _ _ s2
          have p2 := frozen_of_row w7 jb 2 _ _ s2
          simp at cl7 q0 q1 q2
          have HRUN := Lib.hid hrun
          clear hrun s1 s2 s3 hown7 hg7 hat7 hb5
          refine hK _ _ ?_
          clear hK K
          refine wpAnyIn_ready (rs := [3]) (by kernel_rfl) (by simp) ?_
          refine AllReadyIn.cons rfl (fun K hK => ?_) AllReadyIn.nil
          go_simp
          refine hK _ _ ?_
          clear hK K
          refine wpAnyIn_ready (rs := [4]) (by kernel_rfl) (by simp) ?_
          refine AllReadyIn.cons rfl (fun K hK => ?_) AllReadyIn.nil
          rw [if_pos (by rfl)]
          refine opIn_of_wp (by intro c h; cases h) ?_
          refine wp_builtin_run _ _ 64 rfl _ _ rfl rfl _ _ HRUN.out ?_
          refine hK _ _ ?_
          clear hK K HRUN
          simp only [Go.Act.put, List.setIfInBounds_toArray]
          refine wpAnyIn_ready (rs := [5]) (by kernel_rfl) (by simp) ?_
          refine AllReadyIn.cons rfl (fun K hK => ?_) AllReadyIn.nil
          go_simp
          refine hK _ _ ?_
          clear hK K
          refine wpAnyIn_done (by kernel_rfl) ?_ _
          gi_wp2_with fail
          exact s4.out
        refine AllReadyIn.cons rfl (fun K hK => ?_) AllReadyIn.nil
        go_simp
        refine ⟨trivial, (CallsIn.inRound l (callsW (clone_any xb W.drew (by omega)))).mono ?_⟩
        rintro e5 w5 ⟨rfl, hb5⟩
        obtain ⟨v', w7, hrun, hown7, hg7, hat7⟩ := run_append_onto (P := Try.prog) (w5.alloc (.cells #[.string xb] 9)) 64 64 9 i0 (.string ⟨#[]⟩) 1 16 Try.underlying64 hi hz0 hz1 hz2 rfl (by decide) v pre.length (pre.map fun x => .string x.s) (kept5 hb5) (.slice (some ⟨w5.heap.size, 0, none⟩) 1 1) 1 [.string xb] (reads_new w5 9 [.string xb] 1 1 1 rfl) (by simp [Value.oneCell']) (by simp only [maxLen]; omega) (by omega)
        obtain ⟨s1, s2, s3, s4⟩ := mkstep hb5 hown7 hg7 hat7
        obtain ⟨A7, c7, hv7, _⟩ := own_slice hown7
        subst hv7
        have cl5 := kc5 hb5
        have cl6 := kc6 hb5
        have cl7 := cell_of_row w7 (jb + 1 + 1) 0 _ _ _ s1
        have fl7 := frozen_of_row w7 (jb + 1 + 1) 0 _ _ s1
        have q0 := cell_of_row w7 (jb + 1) 0 _ _ _ (s3.trans hbox)
        have q1 := cell_of_row w7 jb 1 _ _ _ s2
        have q2 := cell_of_row w7 jb 2 _ _ _ s2
        have p1 := frozen_of_row w7 jb 1 _ _ s2
        have p2 := frozen_of_row w7 jb 2 _ _ s2
        simp at cl7 q0 q1 q2
        have HRUN := Lib.hid hrun
        clear hrun s1 s2 s3 hown7 hg7 hat7 hb5
        refine hK _ _ ?_
        clear hK K
        refine wpAnyIn_ready (rs := [0, 3]) (by kernel_rfl) (by simp) ?_
        refine AllReadyIn.cons rfl (fun K hK => ?_) ?_
        · skip
          go_simp
          refine hK _ _ ?_
          clear hK K
          refine wpAnyIn_ready (rs := [3]) (by kernel_rfl) (by simp) ?_
          refine AllReadyIn.cons rfl (fun K hK => ?_) AllReadyIn.nil
          go_simp
          refine hK _ _ ?_
          clear hK K
          refine wpAnyIn_ready (rs := [4]) (by kernel_rfl) (by simp) ?_
          refine AllReadyIn.cons rfl (fun K hK => ?_) AllReadyIn.nil
          rw [if_pos (by rfl)]
          refine opIn_of_wp (by intro c h; cases h) ?_
          refine wp_builtin_run _ _ 64 rfl _ _ rfl rfl _ _ HRUN.out ?_
          refine hK _ _ ?_
          clear hK K HRUN
          simp only [Go.Act.put, List.setIfInBounds_toArray]
          refine wpAnyIn_ready (rs := [5]) (by kernel_rfl) (by simp) ?_
          refine AllReadyIn.cons rfl (fun K hK => ?_) AllReadyIn.nil
          go_simp
          refine hK _ _ ?_
          clear hK K
          refine wpAnyIn_done (by kernel_rfl) ?_ _
          gi_wp2_with fail
          exact s4.out
        refine AllReadyIn.cons rfl (fun K hK => ?_) AllReadyIn.nil
        go_simp
        refine hK _ _ ?_
        clear hK K
        refine wpAnyIn_ready (rs := [0]) (by kernel_rfl) (by simp) ?_
        refine AllReadyIn.cons rfl (fun K hK => ?_) AllReadyIn.nil
        go_simp
        refine hK _ _ ?_
        clear hK K
        refine wpAnyIn_ready (rs := [4]) (by kernel_rfl) (by simp) ?_
        refine AllReadyIn.cons rfl (fun K hK => ?_) AllReadyIn.nil
        rw [if_pos (by rfl)]
        refine opIn_of_wp (by intro c h; cases h) ?_
        refine wp_builtin_run _ _ 64 rfl _ _ rfl rfl _ _ HRUN.out ?_
        refine hK _ _ ?_
        clear hK K HRUN
        simp only [Go.Act.put, List.setIfInBounds_toArray]
        refine wpAnyIn_ready (rs := [5]) (by kernel_rfl) (by simp) ?_
        refine AllReadyIn.cons rfl (fun K hK => ?_) AllReadyIn.nil
        go_simp
        refine hK _ _ ?_
        clear hK K
        refine wpAnyIn_done (by kernel_rfl) ?_ _
        gi_wp2_with fail
        exact s4.out
    case doneZ =>
      rintro D ys W hD rfl hI hK
      obtain ⟨hI1, hI2, ⟨v, hI3, hI4, hI5⟩, hI6⟩ := hI
      have hsz := hI1.size
      have r0 := hI1.is (H4.out.block 7 rfl) (hTg g0 (by omega))
      have r1 := hI1.is (H4.out.block 6 rfl) (hTg (g0 + 1) (by omega))
      have r2 := hI1.is (H4.out.block 5 rfl) (hTg (g0 + 1 + 1) (by omega))
      have hbox := hI1.is (H4.out.block 3 rfl) (hTg (jb + 1) (by omega))
      obtain ⟨Av, cv, hv, _⟩ := own_slice hI4
      have HFIN := Lib.hid (open_done H4.out (by omega) hg02 (by omega) hI1 hI2 hI4 hI5 r0 r1 r2 D hD hK)
      subst hv
      have HI6 := Lib.hid hI6
      have z0 := cell_of_row W g0 0 _ _ _ r0
      have z1 := cell_of_row W (g0 + 1) 0 _ _ _ r1
      have z2 := cell_of_row W (g0 + 1 + 1) 0 _ _ _ r2
      have z3 := cell_of_row W (jb + 1) 0 _ _ _ hbox
      have z4 := cell_of_row W (jb + 1 + 1) 0 _ _ _ hI3
      have y0 := frozen_of_row W g0 0 _ _ r0
      have y1 := frozen_of_row W (g0 + 1) 0 _ _ r1
      have y2 := frozen_of_row W (g0 + 1 + 1) 0 _ _ r2
      simp at z0 z1 z2 z3 z4
      have n1 : ¬ jb + 1 + 1 = g0 := by omega
      have n2 : ¬ jb + 1 = g0 := by omega
      have n3 : ¬ jb + 1 + 1 = g0 + 1 := by omega
      have n4 : ¬ jb + 1 = g0 + 1 := by omega
      have n5 : ¬ jb + 1 + 1 = g0 + 1 + 1 := by omega
      have n6 : ¬ jb + 1 = g0 + 1 + 1 := by omega
      have HK := Lib.hid hK
      clear hI1 hI2 hI3 hI4 hI5 hI6 r0 r1 r2 hbox hs4 hsz hD hK
      go_wp2_with fail
      go_region
      all_goals
        go_wp2_with fail
        refine ⟨by simp, .inl ⟨_, _, rfl, run_takeDeferred (HFIN.out.1), ?_⟩⟩
        refine ⟨.tuple #[.pointer (some ⟨jb, 0, none⟩), .slice Av ys.length cv, .int .i64 0], ?_, ?_⟩
        · have hc := HFIN.out.2.1
          simp [results, Try.results41, go_sem, hc]
        exact .inr ⟨HI6.out, jb, _, rfl, HFIN.out.2.2⟩
    case stopZ =>
      rintro D c pre W hD hpre hX hK
      obtain ⟨rfl, hX1, hX2, hX3, hX4, hX5⟩ := hX
      gi_wp2_with fail
      have HFIN := open_stop H4.out (by omega) hX1 hX2 hX3 hX4 D hD hK
      refine ⟨by simp, .inl ⟨_, _, rfl, run_takeDeferred hK, ?_⟩⟩
      refine ⟨.tuple #[.pointer none, .slice none 0 0, .int .i64 11], ?_, ?_⟩
      · have hc := HFIN.1
        simp [results, Try.results41, go_sem, hc]
      obtain ⟨x, hx1, hx2⟩ := hX5
      exact .inl ⟨⟨x, hpre.subset hx1, hx2⟩, rfl, HFIN.2⟩
  · go_wp2_with fail
    refine (at_size_c H2.out 3 rfl (σ.now.length : Int) (by rw [HL.out])).mono ?_
    rintro e w3 ⟨rfl, rfl⟩
    have H3 := Lib.hid (at_alloc (at_alloc (at_alloc H2.out 82 #[.pointer (some ⟨g, 0, none⟩), .int .i64 0, .int .i64 0, .int .i64 (ee : Int), .bool false]) 65 #[.pointer (some ⟨w2.heap.size, 0, none⟩)]) 64 #[.slice none 0 0])
    obtain ⟨jb, hjb⟩ : ∃ jb, w2.heap.size = jb := ⟨_, rfl⟩
    simp only [World.size_alloc, hjb] at H3
    go_wp2_with fail
    generalize ((w2.alloc (.cells #[.pointer (some ⟨g, 0, none⟩), .int .i64 0, .int .i64 0, .int .i64 (ee : Int), .bool false] 82)).alloc (.cells #[.pointer (some ⟨jb, 0, none⟩)] 65)).alloc (.cells #[.slice none 0 0] 64) = w3 at *
    have hg02 : g0 + 1 + 1 < jb := by rw [← hjb]; exact lt_of_block (H2.out.block 0 rfl)
    have hjb2 : jb + 1 + 1 < w3.heap.size := by exact lt_of_block (H3.out.block 0 rfl)
    clear H2 hjb
    refine (records_any w3 (some ⟨g, 0, none⟩) (ee : Int)).mono ?_
    rintro e w4 ⟨rfl, hw4⟩
    have H4 := Lib.hid (at_alloc (at_alloc H3.out 25 #[.pointer (some ⟨g, 0, none⟩)]) 3 #[.int .i64 (ee : Int)])
    simp only [World.size_alloc] at H4
    rw [← hw4] at H4
    have hs4 : w4.heap.size = w3.heap.size + 1 + 1 := by rw [hw4]; simp
    clear hw4 H3
    generalize w3.heap.size = rb at *
    have b1 := H4.out.block 0 rfl
    have b2 := H4.out.block 1 rfl
    have HXL : Hid (xs.length ≤ 100000000) := by
      show xs.length ≤ 100000000
      have h1 := congrArg List.length HX.out
      have h2 := tok_len σ.now ee 64 ee (by omega)
      simp only [List.length_map, tokL] at h1
      omega
    have hTg : ∀ k, k ≠ jb ∧ k ≠ jb + 1 + 1 ∧ k < rb + 1 + 1 → ¬ LT jb w4.heap.size k := by
      rintro k ⟨h1, h2, h3⟩ (h | h | h) <;> omega
    obtain ⟨S4, hD4, hA4⟩ := H4.out.apart 8 rfl
    have hS4 : ∀ k, S4 k → ¬ LT jb w4.heap.size k := by
      rintro k hk (h | h | h)
      · subst h; exact hA4 4 _ _ _ (by decide) rfl hk
      · subst h; exact hA4 2 _ _ _ (by decide) rfl hk
      · have := hD4.lt k hk; omega
    have hT1 := hTg (rb + 1) (by omega)
    have hT2 := hTg rb (by omega)
    have HSQ := Lib.hid (rec_stops 4 (by omega) (rb + 1) rb g ee σ.sync S4 (LT jb w4.heap.size) hS4 hT1 hT2 hee0 hee1 xs (by rw [HL.out]; exact HX.out) w4 b1 b2 hD4)
    have HI0 : Hid (JI w4 g jb ee [] w4) := ⟨Turns.refl _ _, H4.out.block 4 rfl, ⟨_, H4.out.block 2 rfl, World.ownsRow_nil _ _ _ _, fun k hk => by simp [Value.ownBlock] at hk⟩, fun _ h => by cases h⟩
    clear b1 b2 hD4 hS4 hT1 hT2
    go_wp2_with fail
    refine wpIn_wide (n := 5).1 ?_
    refine wpIn_rangeFunc_ownG (w0 := w4) rfl (by omega) (gf := 67) (lb := #[.pointer (some ⟨rb + 1, 0, none⟩), .pointer (some ⟨rb, 0, none⟩)]) rfl trivial (enters_of Try.func67 (by kernel_rfl) rfl) HSQ.out
      (fun h k => h.trans k fun i hi => .inl hi) (turnsK_b fun k hk => .inr (.inr hk)) (Below.refl _ _) (fun _ => rfl) (JI w4 g jb ee) (JX w4 g0 jb) (JI.own _ _ _ _) (JX.own _ _ _) HI0.out ?a1 ?assign ?body ?done ?stop
    case assign =>
      intro l x W K hK
      unfold Tok.vals
      gi_wp2
      exact hK
    case body =>
      rintro l pre ⟨xb, xo, xl⟩ W hI hlt
      have HJI := Lib.hid hI
      obtain ⟨hI1, hI2, ⟨v, hI3, hI4, hI5⟩, hI6⟩ := hI
      have hpl : pre.length ≤ 100000000 := by have := HXL.out; omega
      have hbs := bsum_le pre
      have hsz := hI1.size
      have r0 := hI1.is (H4.out.block 7 rfl) (hTg g0 (by omega))
      have r1 := hI1.is (H4.out.block 6 rfl) (hTg (g0 + 1) (by omega))
      have r2 := hI1.is (H4.out.block 5 rfl) (hTg (g0 + 1 + 1) (by omega))
      have hbox := hI1.is (H4.out.block 3 rfl) (hTg (jb + 1) (by omega))
      have HS4 := Lib.hid hs4
      cases xo with
      | false =>
        have s4 := JX.step (xb := xb) (xl := xl) HJI.out r0 r1 r2
        have z0 := cell_of_row W g0 0 _ _ _ r0
        have z1 := cell_of_row W (g0 + 1) 0 _ _ _ r1
        have z2 := cell_of_row W (g0 + 1 + 1) 0 _ _ _ r2
        have y0 := frozen_of_row W g0 0 _ _ r0
        have y1 := frozen_of_row W (g0 + 1) 0 _ _ r1
        have y2 := frozen_of_row W (g0 + 1 + 1) 0 _ _ r2
        simp at z0 z1 z2
        clear hI1 hI2 hI3 hI4 hI5 hI6 r0 r1 r2 hbox hs4 hsz
        gi_wp2_with fail
        exact s4.out
      | true =>
        obtain ⟨i0, hi, hz0, hz1, hz2⟩ := info_parts str_info
        have cl := cell_of_row W (jb + 1 + 1) 0 _ _ _ hI3
        simp at cl
        have mkstep := fun {w5 w7 : World} {v' : Value} => JI.step (w5 := w5) (w7 := w7) (v' := v') (xb := xb) (xl := xl) hI1 hI2 hI3 hI4 hI5 hI6 (by omega)
        have kept5 : ∀ {w5 : World}, Below W.drew.heap.size W.drew w5 → (w5.alloc (.cells #[.string xb] 9)).ownsRow 0 9 1 v pre.length (pre.map fun x => .string x.s) := fun {w5} hb => ((Turns.below (S := No) (w := W) ⟨hb.os, hb.tape, hb.output, hb.size, hb.block⟩).own hI4 fun _ _ => id).alloc _
        have kc5 : ∀ {w5 : World}, Below W.drew.heap.size W.drew w5 → w5.cell? ⟨jb + 1 + 1, 0, none⟩ = some v := fun {w5} hb => (hb.cell (p := ⟨jb + 1 + 1, 0, none⟩) (lt_of_block hI3)).trans cl
        have kc6 : ∀ {w5 : World}, Below W.drew.heap.size W.drew w5 → (w5.alloc (.cells #[.string xb] 9)).cell? ⟨jb + 1 + 1, 0, none⟩ = some v := fun {w5} hb => ((Turns.refl No w5).alloc _ |>.cell (p := ⟨jb + 1 + 1, 0, none⟩) (Nat.lt_of_lt_of_le (lt_of_block hI3) hb.size) id).trans (kc5 hb)
        clear hI1 hI2 hI3 hI4 hI5 hI6 r0 r1 r2 hs4 hsz
        gi_wp2_with fail
        refine wpIn_region_any (by kernel_rfl) ?_
        change wpAnyIn _ _ _ _ _ _ _ _ _ (World.drew _)
        refine wpAnyIn_ready (rs := [0, 1]) (by kernel_rfl) (by simp) ?_
        refine AllReadyIn.cons rfl (fun K hK => ?_) ?_
        · skip
          go_simp
          refine hK _ _ ?_
          clear hK K
          refine wpAnyIn_ready (rs := [1]) (by kernel_rfl) (by simp) ?_
          refine AllReadyIn.cons rfl (fun K hK => ?_) AllReadyIn.nil
          go_simp
          refine hK _ _ ?_
          clear hK K
          refine wpAnyIn_ready (rs := [2]) (by kernel_rfl) (by simp) ?_
          refine AllReadyIn.cons rfl (fun K hK => ?_) AllReadyIn.nil
          go_simp
          refine ⟨trivial, (CallsIn.inRound l (callsW (clone_any xb W.drew (by omega)))).mono ?_⟩
          rintro e5 w5 ⟨rfl, hb5⟩
          obtain ⟨v', w7, hrun, hown7, hg7, hat7⟩ := run_append_onto (P := Try.prog) (w5.alloc (.cells #[.string xb] 9)) 64 64 9 i0 (.string ⟨#[]⟩) 1 16 Try.underlying64 hi hz0 hz1 hz2 rfl (by decide) v pre.length (pre.map fun x => .string x.s) (kept5 hb5) (.slice (some ⟨w5.heap.size, 0, none⟩) 1 1) 1 [.string xb] (reads_new w5 9 [.string xb] 1 1 1 rfl) (by simp [Value.oneCell']) (by simp only [maxLen]; omega) (by omega)
          obtain ⟨s1, s2, s3, s4⟩ := mkstep hb5 hown7 hg7 hat7
          obtain ⟨A7, c7, hv7, _⟩ := own_slice hown7
          subst hv7
          have cl5 := kc5 hb5
          have cl6 := kc6 hb5
          have cl7 := cell_of_row w7 (jb + 1 + 1) 0 _ _ _ s1
          have fl7 := frozen_of_row w7 (jb + 1 + 1) 0 _ _ s1
          have q0 := cell_of_row w7 (jb + 1) 0 _ _ _ (s3.trans hbox)
          have q1 := cell_of_row w7 jb 1 _ _ _ s2
          have q2 := cell_of_row w7 jb 2 _ _ _ s2
          have p1 := frozen_of_row w7 jb 1 _ _ s2
          have p2 := frozen_of_row w7 jb 2 _ _ s2
          simp at cl7 q0 q1 q2
          have HRUN := Lib.hid hrun
          clear hrun s1 s2 s3 hown7 hg7 hat7 hb5
          refine hK _ _ ?_
          clear hK K
          refine wpAnyIn_ready (rs := [3]) (by kernel_rfl) (by simp) ?_
          refine AllReadyIn.cons rfl (fun K hK => ?_) AllReadyIn.nil
          go_simp
          refine hK _ _ ?_
          clear hK K
          refine wpAnyIn_ready (rs := [4]) (by kernel_rfl) (by simp) ?_
          refine AllReadyIn.cons rfl (fun K hK => ?_) AllReadyIn.nil
          rw [if_pos (by rfl)]
          refine opIn_of_wp (by intro c h; cases h) ?_
          refine wp_builtin_run _ _ 64 rfl _ _ rfl rfl _ _ HRUN.out ?_
          refine hK _ _ ?_
          clear hK K HRUN
          simp only [Go.Act.put, List.setIfInBounds_toArray]
          refine wpAnyIn_ready (rs := [5]) (by kernel_rfl) (by simp) ?_
          refine AllReadyIn.cons rfl (fun K hK => ?_) AllReadyIn.nil
          go_simp
          refine hK _ _ ?_
          clear hK K
          refine wpAnyIn_done (by kernel_rfl) ?_ _
          gi_wp2_with fail
          exact s4.out
        refine AllReadyIn.cons rfl (fun K hK => ?_) AllReadyIn.nil
        go_simp
        refine hK _ _ ?_
        clear hK K
        refine wpAnyIn_ready (rs := [0, 2]) (by kernel_rfl) (by simp) ?_
        refine AllReadyIn.cons rfl (fun K hK => ?_) ?_
        · skip
          go_simp
          refine hK _ _ ?_
          clear hK K
          refine wpAnyIn_ready (rs := [2]) (by kernel_rfl) (by simp) ?_
          refine AllReadyIn.cons rfl (fun K hK => ?_) AllReadyIn.nil
          go_simp
          refine ⟨trivial, (CallsIn.inRound l (callsW (clone_any xb W.drew (by omega)))).mono ?_⟩
          rintro e5 w5 ⟨rfl, hb5⟩
          obtain ⟨v', w7, hrun, hown7, hg7, hat7⟩ := run_append_onto (P := Try.prog) (w5.alloc (.cells #[.string xb] 9)) 64 64 9 i0 (.string ⟨#[]⟩) 1 16 Try.underlying64 hi hz0 hz1 hz2 rfl (by decide) v pre.length (pre.map fun x => .string x.s) (kept5 hb5) (.slice (some ⟨w5.heap.size, 0, none⟩) 1 1) 1 [.string xb] (reads_new w5 9 [.string xb] 1 1 1 rfl) (by simp [Value.oneCell']) (by simp only [maxLen]; omega) (by omega)
          obtain ⟨s1, s2, s3, s4⟩ := mkstep hb5 hown7 hg7 hat7
          obtain ⟨A7, c7, hv7, _⟩ := own_slice hown7
          subst hv7
          have cl5 := kc5 hb5
          have cl6 := kc6 hb5
          have cl7 := cell_of_row w7 (jb + 1 + 1) 0 _ _ _ s1
          have fl7 := frozen_of_row w7 (jb + 1 + 1) 0 _ _ s1
          have q0 := cell_of_row w7 (jb + 1) 0 _ _ _ (s3.trans hbox)
          have q1 := cell_of_row w7 jb 1 _ _ _ s2
          have q2 := cell_of_row w7 jb 2 _ _ _ s2
          have p1 := frozen_of_row w7 jb 1 _ _ s2
          have p2 := frozen_of_row w7 jb 2 _ _ s2
          simp at cl7 q0 q1 q2
          have HRUN := Lib.hid hrun
          clear hrun s1 s2 s3 hown7 hg7 hat7 hb5
          refine hK _ _ ?_
          clear hK K
          refine wpAnyIn_ready (rs := [3]) (by kernel_rfl) (by simp) ?_
          refine AllReadyIn.cons rfl (fun K hK => ?_) AllReadyIn.nil
          go_simp
          refine hK _ _ ?_
          clear hK K
          refine wpAnyIn_ready (rs := [4]) (by kernel_rfl) (by simp) ?_
          refine AllReadyIn.cons rfl (fun K hK => ?_) AllReadyIn.nil
          rw [if_pos (by rfl)]
          refine opIn_of_wp (by intro c h; cases h) ?_
          refine wp_builtin_run _ _ 64 rfl _ _ rfl rfl _ _ HRUN.out ?_
          refine hK _ _ ?_
          clear hK K HRUN
          simp only [Go.Act.put, List.setIfInBounds_toArray]
          refine wpAnyIn_ready (rs := [5]) (by kernel_rfl) (by simp) ?_
          refine AllReadyIn.cons rfl (fun K hK => ?_) AllReadyIn.nil
          go_simp
          refine hK _ _ ?_
          clear hK K
          refine wpAnyIn_done (by kernel_rfl) ?_ _
          gi_wp2_with fail
          exact s4.out
        refine AllReadyIn.cons rfl (fun K hK => ?_) AllReadyIn.nil
        go_simp
        refine ⟨trivial, (CallsIn.inRound l (callsW (clone_any xb W.drew (by omega)))).mono ?_⟩
        rintro e5 w5 ⟨rfl, hb5⟩
        obtain ⟨v', w7, hrun, hown7, hg7, hat7⟩ := run_append_onto (P := Try.prog) (w5.alloc (.cells #[.string xb] 9)) 64 64 9 i0 (.string ⟨#[]⟩) 1 16 Try.underlying64 hi hz0 hz1 hz2 rfl (by decide) v pre.length (pre.map fun x => .string x.s) (kept5 hb5) (.slice (some ⟨w5.heap.size, 0, none⟩) 1 1) 1 [.string xb] (reads_new w5 9 [.string xb] 1 1 1 rfl) (by simp [Value.oneCell']) (by simp only [maxLen]; omega) (by omega)
        obtain ⟨s1, s2, s3, s4⟩ := mkstep hb5 hown7 hg7 hat7
        obtain ⟨A7, c7, hv7, _⟩ := own_slice hown7
        subst hv7
        have cl5 := kc5 hb5
        have cl6 := kc6 hb5
        have cl7 := cell_of_row w7 (jb + 1 + 1) 0 _ _ _ s1
        have fl7 := frozen_of_row w7 (jb + 1 + 1) 0 _ _ s1
        have q0 := cell_of_row w7 (jb + 1) 0 _ _ _ (s3.trans hbox)
        have q1 := cell_of_row w7 jb 1 _ _ _ s2
        have q2 := cell_of_row w7 jb 2 _ _ _ s2
        have p1 := frozen_of_row w7 jb 1 _ _ s2
        have p2 := frozen_of_row w7 jb 2 _ _ s2
        simp at cl7 q0 q1 q2
        have HRUN := Lib.hid hrun
        clear hrun s1 s2 s3 hown7 hg7 hat7 hb5
        refine hK _ _ ?_
        clear hK K
        refine wpAnyIn_ready (rs := [0, 3]) (by kernel_rfl) (by simp) ?_
        refine AllReadyIn.cons rfl (fun K hK => ?_) ?_
        · skip
          go_simp
          refine hK _ _ ?_
          clear hK K
          refine wpAnyIn_ready (rs := [3]) (by kernel_rfl) (by simp) ?_
          refine AllReadyIn.cons rfl (fun K hK => ?_) AllReadyIn.nil
          go_simp
          refine hK _ _ ?_
          clear hK K
          refine wpAnyIn_ready (rs := [4]) (by kernel_rfl) (by simp) ?_
          refine AllReadyIn.cons rfl (fun K hK => ?_) AllReadyIn.nil
          rw [if_pos (by rfl)]
          refine opIn_of_wp (by intro c h; cases h) ?_
          refine wp_builtin_run _ _ 64 rfl _ _ rfl rfl _ _ HRUN.out ?_
          refine hK _ _ ?_
          clear hK K HRUN
          simp only [Go.Act.put, List.setIfInBounds_toArray]
          refine wpAnyIn_ready (rs := [5]) (by kernel_rfl) (by simp) ?_
          refine AllReadyIn.cons rfl (fun K hK => ?_) AllReadyIn.nil
          go_simp
          refine hK _ _ ?_
          clear hK K
          refine wpAnyIn_done (by kernel_rfl) ?_ _
          gi_wp2_with fail
          exact s4.out
        refine AllReadyIn.cons rfl (fun K hK => ?_) AllReadyIn.nil
        go_simp
        refine hK _ _ ?_
        clear hK K
        refine wpAnyIn_ready (rs := [0]) (by kernel_rfl) (by simp) ?_
        refine AllReadyIn.cons rfl (fun K hK => ?_) AllReadyIn.nil
        go_simp
        refine hK _ _ ?_
        clear hK K
        refine wpAnyIn_ready (rs := [4]) (by kernel_rfl) (by simp) ?_
        refine AllReadyIn.cons rfl (fun K hK => ?_) AllReadyIn.nil
        rw [if_pos (by rfl)]
        refine opIn_of_wp (by intro c h; cases h) ?_
        refine wp_builtin_run _ _ 64 rfl _ _ rfl rfl _ _ HRUN.out ?_
        refine hK _ _ ?_
        clear hK K HRUN
        simp only [Go.Act.put, List.setIfInBounds_toArray]
        refine wpAnyIn_ready (rs := [5]) (by kernel_rfl) (by simp) ?_
        refine AllReadyIn.cons rfl (fun K hK => ?_) AllReadyIn.nil
        go_simp
        refine hK _ _ ?_
        clear hK K
        refine wpAnyIn_done (by kernel_rfl) ?_ _
        gi_wp2_with fail
        exact s4.out
    case done =>
      rintro D ys W hD rfl hI hK
      obtain ⟨hI1, hI2, ⟨v, hI3, hI4, hI5⟩, hI6⟩ := hI
      have hsz := hI1.size
      have r0 := hI1.is (H4.out.block 7 rfl) (hTg g0 (by omega))
      have r1 := hI1.is (H4.out.block 6 rfl) (hTg (g0 + 1) (by omega))
      have r2 := hI1.is (H4.out.block 5 rfl) (hTg (g0 + 1 + 1) (by omega))
      have hbox := hI1.is (H4.out.block 3 rfl) (hTg (jb + 1) (by omega))
      obtain ⟨Av, cv, hv, _⟩ := own_slice hI4
      have HFIN := Lib.hid (open_done H4.out (by omega) hg02 (by omega) hI1 hI2 hI4 hI5 r0 r1 r2 D hD hK)
      subst hv
      have HI6 := Lib.hid hI6
      have z0 := cell_of_row W g0 0 _ _ _ r0
      have z1 := cell_of_row W (g0 + 1) 0 _ _ _ r1
      have z2 := cell_of_row W (g0 + 1 + 1) 0 _ _ _ r2
      have z3 := cell_of_row W (jb + 1) 0 _ _ _ hbox
      have z4 := cell_of_row W (jb + 1 + 1) 0 _ _ _ hI3
      have y0 := frozen_of_row W g0 0 _ _ r0
      have y1 := frozen_of_row W (g0 + 1) 0 _ _ r1
      have y2 := frozen_of_row W (g0 + 1 + 1) 0 _ _ r2
      simp at z0 z1 z2 z3 z4
      have n1 : ¬ jb + 1 + 1 = g0 := by omega
      have n2 : ¬ jb + 1 = g0 := by omega
      have n3 : ¬ jb + 1 + 1 = g0 + 1 := by omega
      have n4 : ¬ jb + 1 = g0 + 1 := by omega
      have n5 : ¬ jb + 1 + 1 = g0 + 1 + 1 := by omega
      have n6 : ¬ jb + 1 = g0 + 1 + 1 := by omega
      have HK := Lib.hid hK
      clear hI1 hI2 hI3 hI4 hI5 hI6 r0 r1 r2 hbox hs4 hsz hD hK
      go_wp2_with fail
      go_region
      all_goals
        go_wp2_with fail
        refine ⟨by simp, .inl ⟨_, _, rfl, run_takeDeferred (HFIN.out.1), ?_⟩⟩
        refine ⟨.tuple #[.pointer (some ⟨jb, 0, none⟩), .slice Av ys.length cv, .int .i64 0], ?_, ?_⟩
        · have hc := HFIN.out.2.1
          simp [results, Try.results41, go_sem, hc]
        exact .inr ⟨HI6.out, jb, _, rfl, HFIN.out.2.2⟩
    case stop =>
      rintro D c pre W hD hpre hX hK
      obtain ⟨rfl, hX1, hX2, hX3, hX4, hX5⟩ := hX
      gi_wp2_with fail
      have HFIN := open_stop H4.out (by omega) hX1 hX2 hX3 hX4 D hD hK
      refine ⟨by simp, .inl ⟨_, _, rfl, run_takeDeferred hK, ?_⟩⟩
      refine ⟨.tuple #[.pointer none, .slice none 0 0, .int .i64 11], ?_, ?_⟩
      · have hc := HFIN.1
        simp [results, Try.results41, go_sem, hc]
      obtain ⟨x, hx1, hx2⟩ := hX5
      exact .inl ⟨⟨x, hpre.subset hx1, hx2⟩, rfl, HFIN.2⟩
end Go.Proofs.Ytnfmcmjfpbmloaa
