/-
  Open and Append over contents that hold records.
-/
import Derived.Test.YtnfmcmjfpbmloaaJrJ
namespace Go.Proofs.Ytnfmcmjfpbmloaa
open Go.RowKit

/-- A disk with a journal's contents, on which nothing is pending. -/
structure GJ (σ : DS) (l : List (List UInt8)) (e : Nat) : Prop where
  holds : Holds σ.now l e
  pcs : σ.pcs = []
  syn : σ.syn = σ.now

theorem writeE_if (σ : DS) (off : Nat) (s : List UInt8) (h : off + s.length ≤ 16777216) : σ.writeE off s = if σ.off then 70 else 0 := by
  unfold DS.writeE
  rw [if_neg (by omega)]
theorem write_if (σ : DS) (off : Nat) (s : List UInt8) (h : off + s.length ≤ 16777216) : σ.write off s = if σ.off then σ else { σ.tick with now := lay σ.now off s, pcs := σ.pcs ++ pieces off s } := by
  unfold DS.write
  rw [if_neg (by omega)]
  rfl

/-- What a failed or a finished Append leaves. -/
def After (l : List (List UInt8)) (e : Nat) (s : List UInt8) (τ : DS × Int) : Prop :=
  (τ.2 = 0 ∧ GJ τ.1 (l ++ [s]) (e + 4 + s.length)) ∨
  (τ.2 = 70 ∧ (Holds τ.1.now l e ∨ Holds τ.1.now (l ++ [s]) (e + 4 + s.length)) ∧ ∀ q, Holds (τ.1.crash q).now l e ∨ Holds (τ.1.crash q).now (l ++ [s]) (e + 4 + s.length))

theorem step_cases (σ : DS) (off : Nat) (s : List UInt8) (h : off + s.length ≤ 16777216) :
    (σ.off = true ∧ σ.step off s = (σ, 70)) ∨
    (σ.off = false ∧ (σ.step off s = ({ σ.tick with now := lay σ.now off s, pcs := σ.pcs ++ pieces off s }, 70) ∨ ∃ n left, σ.step off s = ({ σ with now := lay σ.now off s, syn := lay σ.now off s, pcs := [], n := n, left := left }, 0))) := by
  unfold DS.step
  rw [writeE_if σ off s h, write_if σ off s h]
  cases ho : σ.off with
  | true => exact .inl ⟨rfl, by simp⟩
  | false =>
    refine .inr ⟨rfl, ?_⟩
    simp only [Bool.false_eq_true, if_false, ne_eq, not_true_eq_false]
    unfold DS.syncE DS.sync
    cases h2 : ({ σ.tick with now := lay σ.now off s, pcs := σ.pcs ++ pieces off s } : DS).off with
    | true => exact .inl (by simp)
    | false => exact .inr ⟨_, _, by simp [DS.tick]; exact ⟨rfl, rfl⟩⟩

theorem pieces_head (s : List UInt8) (h1 : s ≠ []) (h2 : s.length ≤ 64) : pieces 0 s = [(0, s)] := by
  rw [pieces_cons 0 s h1, List.drop_of_length_le (by omega), pieces_nil, List.take_of_length_le (by omega)]

theorem two_any {σ : DS} {l : List (List UInt8)} {e : Nat} (h : GJ σ l e) (s : List UInt8) (hb : bs l + s.length + 272 ≤ 16777216) : After l e s (σ.two e (be 4 s.length ++ s) 0 (be 8 (e + 4 + s.length - 64))) := by
  have hs := h.holds.sum
  have hg := h.holds.ge
  have hsn := h.holds.snoc s (by omega)
  have hfar := h.holds.far e (be 4 s.length ++ s) (Nat.le_refl _)
  have l1 : (be 4 s.length ++ s).length = 4 + s.length := by rw [List.length_append, length_be]
  have l2 := length_be 8 (e + 4 + s.length - 64)
  unfold DS.two
  rcases step_cases σ e (be 4 s.length ++ s) (by omega) with ⟨_, h1⟩ | ⟨_, h1 | ⟨n1, f1, h1⟩⟩
  · rw [h1, if_pos (by simp)]
    refine .inr ⟨rfl, .inl h.holds, fun q => .inl ?_⟩
    show Holds (fall q 0 σ.syn σ.pcs) l e
    rw [h.pcs, h.syn]
    exact h.holds
  · rw [h1, if_pos (by simp)]
    refine .inr ⟨rfl, .inl hfar, fun q => .inl ?_⟩
    show Holds (fall q 0 σ.syn (σ.pcs ++ pieces e (be 4 s.length ++ s))) l e
    rw [h.pcs, h.syn, List.nil_append]
    exact Holds.fall q _ _ _ h.holds (pieces_ge _ _ _ (Nat.le_refl _))
  · rw [h1, if_neg (by simp)]
    dsimp only
    rcases step_cases { σ with now := lay σ.now e (be 4 s.length ++ s), syn := lay σ.now e (be 4 s.length ++ s), pcs := [], n := n1, left := f1 } 0 (be 8 (e + 4 + s.length - 64)) (by omega) with ⟨_, h2⟩ | ⟨_, h2 | ⟨n2, f2, h2⟩⟩
    · rw [show ((0 : Nat) : Int) = 0 from rfl] at h2
      rw [h2]
      exact .inr ⟨rfl, .inl hfar, fun q => .inl hfar⟩
    · rw [show ((0 : Nat) : Int) = 0 from rfl] at h2
      rw [h2]
      refine .inr ⟨rfl, .inr hsn, fun q => ?_⟩
      show Holds (fall q 0 (lay σ.now e (be 4 s.length ++ s)) ([] ++ pieces 0 (be 8 (e + 4 + s.length - 64)))) l e ∨ Holds (fall q 0 (lay σ.now e (be 4 s.length ++ s)) ([] ++ pieces 0 (be 8 (e + 4 + s.length - 64)))) _ _
      rw [List.nil_append, pieces_head _ (by intro h0; rw [h0] at l2; cases l2) (by omega)]
      show Holds (if lives q 0 then _ else _) _ _ ∨ Holds (if lives q 0 then _ else _) _ _
      split
      · exact .inr hsn
      · exact .inl hfar
    · rw [show ((0 : Nat) : Int) = 0 from rfl] at h2
      rw [h2]
      exact .inl ⟨rfl, hsn, rfl, rfl⟩

theorem two_n (σ : DS) (o1 : Int) (s1 : List UInt8) (o2 : Int) (s2 : List UInt8) : (σ.two o1 s1 o2 s2).1.n ≤ σ.n + 4 := by
  have key : ∀ (τ : DS) (o : Int) (s : List UInt8), (τ.step o s).1.n ≤ τ.n + 2 := by
    intro τ o s
    unfold DS.step
    have h1 := DS.write_n τ o s
    split
    · dsimp only; omega
    · have h2 := DS.sync_n (τ.write o s)
      dsimp only; omega
  have k1 := key σ o1 s1
  unfold DS.two
  split
  · omega
  · have k2 := key (σ.step o1 s1).1 o2 s2
    omega
theorem step_lim (σ : DS) (o : Int) (s : List UInt8) : (σ.step o s).1.lim = σ.lim := by
  unfold DS.step
  split
  · exact DS.write_lim σ o s
  · exact (DS.sync_lim _).trans (DS.write_lim σ o s)
theorem two_lim (σ : DS) (o1 : Int) (s1 : List UInt8) (o2 : Int) (s2 : List UInt8) : (σ.two o1 s1 o2 s2).1.lim = σ.lim := by
  unfold DS.two
  split
  · exact step_lim σ o1 s1
  · exact (step_lim _ _ _).trans (step_lim σ o1 s1)

/-- The power on, Append succeeds. -/
theorem two_ok {σ : DS} {l : List (List UInt8)} {e : Nat} (h : GJ σ l e) (hl : σ.lim = false) (s : List UInt8) (hb : bs l + s.length + 272 ≤ 16777216) :
    (σ.two e (be 4 s.length ++ s) 0 (be 8 (e + 4 + s.length - 64))).2 = 0 ∧ GJ (σ.two e (be 4 s.length ++ s) 0 (be 8 (e + 4 + s.length - 64))).1 (l ++ [s]) (e + 4 + s.length) := by
  rcases two_any h s hb with h1 | ⟨h1, _⟩
  · exact h1
  · exfalso
    have key : ∀ (τ : DS) (o : Int) (t : List UInt8), τ.lim = false → (τ.step o t).2 ≠ 70 := by
      intro τ o t ht
      unfold DS.step DS.writeE
      have h2 : (τ.write o t).lim = false := (DS.write_lim τ o t).trans ht
      rw [DS.syncE_ok h2, DS.off_of ht]
      split
      · split <;> simp
      · simp
    unfold DS.two at h1
    split at h1
    · exact key σ _ _ hl h1
    · exact key _ _ _ ((step_lim σ _ _).trans hl) h1

theorem gj_new : GJ DS.new [] 64 := ⟨holds_nil, rfl, rfl⟩
theorem gj_sync {σ : DS} {l : List (List UInt8)} {e : Nat} (h : Holds σ.now l e) (ho : σ.off = false) : GJ σ.sync l e := by
  unfold DS.sync
  rw [ho]
  exact ⟨h, rfl, rfl⟩
theorem gj_crash {σ : DS} {l : List (List UInt8)} {e : Nat} (q : List Int) (h : Holds (σ.crash q).now l e) : GJ (σ.crash q) l e := ⟨h, rfl, rfl⟩
theorem GJ.crash_holds {σ : DS} {l : List (List UInt8)} {e : Nat} (h : GJ σ l e) (q : List Int) : Holds (σ.crash q).now l e := by
  show Holds (fall q 0 σ.syn σ.pcs) l e
  rw [h.pcs, h.syn]
  exact h.holds

section
variable {w0 w : World} {L : List HP} {g jb : Nat} {σ : DS}

/-- What Open hands back where the contents hold records. -/
def OpenOk (w0 : World) (L : List HP) (g : Nat) (l : List (List UInt8)) (e : Nat) (r : Ending) (w' : World) : Prop := ∃ jb v, r = .returned (.tuple #[.pointer (some ⟨jb, 0, none⟩), v, .int .i64 0]) ∧ At w0 w' (jn jb g l.length (bs l) e false :: sl v l :: L)

theorem bsum_bs : ∀ xs : List Tok, bsum xs = bs (xs.map fun x => x.s.data.toList)
  | [] => rfl
  | x :: xs => by
    simp only [bsum, List.map_cons, bs, bsum_bs xs]
    rfl

theorem at_open (h : At w0 w (dk g σ :: L)) (hn : σ.n < 100000) (ho : σ.off = false) {l : List (List UInt8)} {e : Nat} (hH : Holds σ.now l e) :
    Calls Try.prog 41 #[.pointer (some ⟨g, 0, none⟩)] w (OpenOk w0 (dk g σ.sync :: L) g l e) := by
  have hg := hH.ge
  obtain ⟨xs, hxs⟩ := toks_exist (tok σ.now 64 e) (fun p hp => by have := tok_size σ.now e 64 e (by omega) p hp; omega)
  refine (open_loop h hn ho hH.1 e hH.2.1 xs hxs).mono ?_
  have hx2 : xs.map Tok.pair = l.map fun s => (str s, true) := by rw [hxs, hH.2.2, List.map_map]; rfl
  have hall : ∀ x ∈ xs, x.ok = true := by
    intro x hx
    have : x.pair ∈ l.map fun s => (str s, true) := by rw [← hx2]; exact List.mem_map_of_mem hx
    obtain ⟨s, _, hs⟩ := List.mem_map.1 this
    have : x.pair.2 = true := by rw [← hs]
    exact this
  have hl : (xs.map fun x => x.s.data.toList) = l := by
    have h1 : xs.map (fun x => x.s.data.toList) = (xs.map Tok.pair).map fun p => p.1.data.toList := by rw [List.map_map]; rfl
    rw [h1, hx2, List.map_map]
    conv => rhs; rw [← List.map_id l]
    apply List.map_congr_left
    intro s _
    exact str_data s
  rintro r w' (⟨⟨x, hx1, hx2⟩, _⟩ | ⟨_, jb, v, rfl, hA⟩)
  · rw [hall x hx1] at hx2; cases hx2
  · refine ⟨jb, v, rfl, ?_⟩
    have hlen : (xs.length : Int) = (l.length : Int) := by rw [← hl, List.length_map]
    rw [bsum_bs, hl, hlen] at hA
    exact hA

/-- Append, whatever comes of it. -/
def AppAny (w0 : World) (L : List HP) (jb g : Nat) (l : List (List UInt8)) (e : Nat) (s : List UInt8) (σ : DS) (r : Ending) (w' : World) : Prop :=
  ∃ σ' c, r = .returned (.int .i64 c) ∧ After l e s (σ', c) ∧ σ'.n ≤ σ.n + 4 ∧ σ'.lim = σ.lim ∧ At w0 w' ((if c = 0 then jn jb g (l ++ [s]).length (bs (l ++ [s])) (e + 4 + s.length : Nat) false else jn jb g l.length (bs l) e true) :: dk g σ' :: L)

theorem bs_len (l : List (List UInt8)) : l.length ≤ bs l := by
  induction l with
  | nil => simp
  | cons a l ih => simp only [bs, List.length_cons]; omega

theorem at_append {l : List (List UInt8)} {e : Nat} (h : At w0 w (jn jb g l.length (bs l) e false :: dk g σ :: L)) (hG : GJ σ l e) (s : ByteArray) (hn : σ.n < 50000) (hb : bs l + s.size + 272 ≤ 16777216) :
    Calls Try.prog 43 #[.pointer (some ⟨jb, 0, none⟩), .string s] w (AppAny w0 L jb g l e s.data.toList σ) := by
  have hg := hG.holds.ge
  have hlb := bs_len l
  have hsz : s.data.toList.length = s.size := by rw [Array.length_toList]; rfl
  have ha := two_any hG s.data.toList (by rw [hsz]; omega)
  have hn2 := two_n σ e (be 4 s.data.toList.length ++ s.data.toList) 0 (be 8 (e + 4 + s.data.toList.length - 64))
  have hl2 := two_lim σ e (be 4 s.data.toList.length ++ s.data.toList) 0 (be 8 (e + 4 + s.data.toList.length - 64))
  obtain ⟨⟨τd, τc⟩, hτ⟩ : ∃ τ, σ.two e (be 4 s.data.toList.length ++ s.data.toList) 0 (be 8 (e + 4 + s.data.toList.length - 64)) = τ := ⟨_, rfl⟩
  rw [hτ] at ha hn2 hl2
  refine (append_go h s hn (by omega) (by omega) (by omega) (by omega) (by omega) (by omega) (by omega) τd τc (by rw [← hτ, hsz, show ((e : Int) + 4 + (s.size : Int) - 64).toNat = e + 4 + s.size - 64 by omega])).mono ?_
  rintro r w' ⟨rfl, hA⟩
  refine ⟨τd, τc, rfl, ha, hn2, hl2, ?_⟩
  have e1 : ((l ++ [s.data.toList]).length : Int) = (l.length : Int) + 1 := by simp
  have e2 : (bs (l ++ [s.data.toList]) : Int) = (bs l : Int) + ((s.size : Int) + 16) := by rw [bs_append]; simp [bs, hsz]
  have e3 : ((e + 4 + s.data.toList.length : Nat) : Int) = (e : Int) + 4 + (s.size : Int) := by rw [hsz]; omega
  rw [e1, e2, e3]
  exact hA
end
end Go.Proofs.Ytnfmcmjfpbmloaa
