/-
  Plain Lean: what a crash leaves of each byte.
-/
import Derived.Test.YtnfmcmjfpbmloaaDkA
namespace Go.Proofs.Ytnfmcmjfpbmloaa

theorem lay_get (c : List UInt8) (o : Nat) (t : List UInt8) (i : Nat) : (lay c o t)[i]? = if i < o then (if i < c.length then c[i]? else some 0) else if i < o + t.length then t[i - o]? else c[i]? := by
  unfold lay
  by_cases h1 : i < o
  · rw [if_pos h1, List.getElem?_append_left (by simp; omega), List.getElem?_take, if_pos h1]
    by_cases h2 : i < c.length
    · rw [if_pos h2, List.getElem?_append_left h2]
    · rw [if_neg h2, List.getElem?_append_right (by omega), List.getElem?_replicate, if_pos (by omega)]
  · rw [if_neg h1, List.getElem?_append_right (by simp; omega)]
    have hl : ((c ++ List.replicate (o - c.length) 0).take o).length = o := by simp; omega
    rw [hl]
    by_cases h2 : i < o + t.length
    · rw [if_pos h2, List.getElem?_append_left (by omega)]
    · rw [if_neg h2, List.getElem?_append_right (by omega), List.getElem?_drop]
      congr 1
      omega

theorem pieces_mem : ∀ (m off : Nat) (s : List UInt8), s.length ≤ m → ∀ p ∈ pieces off s, off ≤ p.1 ∧ ∀ b ∈ p.2, b ∈ s := by
  intro m
  induction m with
  | zero =>
    intro off s h p hp
    obtain rfl : s = [] := List.eq_nil_of_length_eq_zero (by omega)
    simp [pieces_nil] at hp
  | succ m ih =>
    intro off s h p hp
    by_cases hs : s = []
    · subst hs; simp [pieces_nil] at hp
    · have hl : 0 < s.length := List.length_pos_iff.2 hs
      rw [pieces_cons off s hs, List.mem_cons] at hp
      rcases hp with rfl | hp
      · exact ⟨Nat.le_refl _, fun b hb => List.mem_of_mem_take hb⟩
      · obtain ⟨h1, h2⟩ := ih _ _ (by rw [List.length_drop]; omega) p hp
        exact ⟨by omega, fun b hb => List.mem_of_mem_drop (h2 b hb)⟩

/-- What DiskBytes asks of contents. -/
structure BOk (A : List UInt8) (off m : Nat) (c : List UInt8) : Prop where
  ge : A.length ≤ c.length
  le : c.length ≤ max A.length (off + m)
  each : ∀ i b, c[i]? = some b → A[i]? = some b ∨ (off ≤ i ∧ i < off + m ∧ b = 0xee) ∨ (A.length ≤ i ∧ b = 0)

theorem BOk.lay {A c : List UInt8} {off m : Nat} (h : BOk A off m c) (o : Nat) (t : List UInt8) (h1 : off ≤ o) (h2 : o + t.length ≤ off + m) (h3 : ∀ b ∈ t, b = 0xee) : BOk A off m (lay c o t) := by
  refine ⟨?_, ?_, ?_⟩
  · rw [length_lay]; have := h.ge; omega
  · rw [length_lay]; have := h.le; omega
  · intro i b hb
    rw [lay_get] at hb
    split at hb
    · split at hb
      · exact h.each i b hb
      · right; right
        injection hb with hb
        have := h.ge
        exact ⟨by omega, hb.symm⟩
    · split at hb
      · right; left
        exact ⟨by omega, by omega, h3 b (List.mem_of_getElem? hb)⟩
      · exact h.each i b hb

theorem BOk.fall {A : List UInt8} {off m : Nat} (q : List Int) : ∀ (ps : List (Nat × List UInt8)) (k : Nat) (c : List UInt8), BOk A off m c → (∀ p ∈ ps, off ≤ p.1 ∧ p.1 + p.2.length ≤ off + m ∧ ∀ b ∈ p.2, b = 0xee) → BOk A off m (fall q k c ps)
  | [], _, _, h, _ => h
  | p :: ps, k, c, h, hp => by
    refine BOk.fall q ps (k + 1) _ ?_ fun x hx => hp x (List.mem_cons_of_mem _ hx)
    obtain ⟨a1, a2, a3⟩ := hp p (List.mem_cons_self ..)
    split
    · exact h.lay _ _ a1 a2 a3
    · exact h

theorem bytes_ok (A : List UInt8) (off m : Nat) (q : List Int) (hA : A.length ≤ 200) (ho : off ≤ 250) (hm : m ≤ 200) :
    BOk A off m ((((DS.new.write 0 A).sync).write off (List.replicate m 0xee)).crash q).now := by
  have e1 : (DS.new.write 0 A).sync = { now := lay [] 0 A, syn := lay [] 0 A, pcs := [], n := 2, lim := false, left := 0 } := by
    have h0 : ¬ (16777216 < (A.length : Int)) := by omega
    simp [DS.write, DS.sync, DS.off, DS.new, DS.tick, h0]
  have e2 : lay [] 0 A = A := by simp [Go.Proofs.Ytnfmcmjfpbmloaa.lay]
  rw [e2] at e1
  rw [e1]
  unfold DS.write
  rw [if_neg (by simp; omega), if_neg (by simp [DS.off])]
  show BOk A off m (Go.Proofs.Ytnfmcmjfpbmloaa.fall q 0 A ([] ++ pieces (off : Int).toNat (List.replicate m 0xee)))
  rw [List.nil_append, Int.toNat_natCast]
  refine BOk.fall q _ 0 A ⟨Nat.le_refl _, by omega, fun i b hb => .inl hb⟩ ?_
  intro p hp
  obtain ⟨h1, h2⟩ := pieces_mem _ off _ (Nat.le_refl _) p hp
  have h3 := pieces_in (off + m) _ off (List.replicate m 0xee) (Nat.le_refl _) (by simp) p hp
  exact ⟨h1, h3, fun b hb => List.eq_of_mem_replicate (h2 b hb)⟩
end Go.Proofs.Ytnfmcmjfpbmloaa
