/-
  Plain Lean: what contents hold as a journal, and what Append makes of them.
-/
import Derived.Test.YtnfmcmjfpbmloaaJrF
import Derived.Test.YtnfmcmjfpbmloaaJrI
namespace Go.Proofs.Ytnfmcmjfpbmloaa
open Go.RowKit

/-- A byte; one that is missing is zero. -/
def by0 (c : List UInt8) (i : Nat) : UInt8 := (c[i]?).getD 0

theorem vstep_zero (x : Int) : vstep x (some 0) = vstep x none := by
  show bits BinOp.or IntKind.i64 (wrap64 (x * 256)) (wrap64 ((0 : UInt8).toNat : Int)) = wrap64 (x * 256)
  have h0 : wrap64 ((0 : UInt8).toNat : Int) = 0 := by rw [IntWalk.wrap64_in _ (by decide)]; rfl
  rw [h0]
  show IntKind.i64.wrap (((BitVec.ofInt 64 (wrap64 (x * 256))) ||| (BitVec.ofInt 64 0)).toNat : Int) = _
  have : BitVec.ofInt 64 0 = 0#64 := by decide
  rw [this, BitVec.or_zero, BitVec.toNat_ofInt]
  generalize x * 256 = y
  simp only [wrap64, IntKind.wrap_i64]
  omega
theorem vstep_by (x : Int) (o o' : Option UInt8) (h : o.getD 0 = o'.getD 0) : vstep x o = vstep x o' := by
  have key : ∀ p : Option UInt8, vstep x p = vstep x (some (p.getD 0)) := by
    intro p
    cases p with
    | none => exact (vstep_zero x).symm
    | some b => rfl
  rw [key o, key o', h]
theorem valN_congr (c c' : List UInt8) : ∀ k, (∀ i, i < k → by0 c i = by0 c' i) → valN c k = valN c' k
  | 0, _ => rfl
  | k + 1, h => by
    show vstep _ _ = vstep _ _
    rw [valN_congr c c' k fun i hi => h i (by omega)]
    exact vstep_by _ _ _ (h k (by omega))
theorem rd_get (c : List UInt8) (a n i : Nat) (hi : i < n) : (rd c a n)[i]? = c[a + i]? := by
  unfold rd
  rw [List.getElem?_take, if_pos hi, List.getElem?_drop]
theorem rd_congr (c c' : List UInt8) (a n : Nat) (h : ∀ i, a ≤ i → i < a + n → c[i]? = c'[i]?) : rd c a n = rd c' a n := by
  apply List.ext_getElem?
  intro i
  by_cases hi : i < n
  · rw [rd_get c a n i hi, rd_get c' a n i hi, h _ (by omega) (by omega)]
  · unfold rd
    rw [List.getElem?_take, List.getElem?_take, if_neg hi, if_neg hi]
theorem head_congr (c c' : List UInt8) (h : ∀ i, i < 8 → by0 c i = by0 c' i) : valN (rd c 0 8) 8 = valN (rd c' 0 8) 8 := by
  refine valN_congr _ _ 8 fun i hi => ?_
  unfold by0
  rw [rd_get c 0 8 i hi, rd_get c' 0 8 i hi, Nat.zero_add]
  exact h i hi

theorem num_cons (x : UInt8) (l : List UInt8) : ∀ k, num (x :: l) (k + 1) = x.toNat * 256 ^ k + num l k
  | 0 => by simp [num]
  | k + 1 => by
    show num (x :: l) (k + 1) * 256 + ((x :: l)[k + 1]?).elim 0 UInt8.toNat = _
    rw [num_cons x l k]
    show (x.toNat * 256 ^ k + num l k) * 256 + (l[k]?).elim 0 UInt8.toNat = x.toNat * 256 ^ (k + 1) + (num l k * 256 + (l[k]?).elim 0 UInt8.toNat)
    rw [Nat.pow_succ, Nat.add_mul, Nat.mul_assoc]
    omega
theorem num_be (n : Nat) : ∀ k rest, num (be k n ++ rest) k = n % 256 ^ k
  | 0, _ => by simp [num, Nat.mod_one]
  | k + 1, rest => by
    show num (UInt8.ofNat (n / 256 ^ k) :: (be k n ++ rest)) (k + 1) = _
    rw [num_cons, num_be n k rest, UInt8.toNat_ofNat', show (2 : Nat) ^ 8 = 256 from rfl, Nat.mod_pow_succ (b := 256), Nat.mul_comm (256 ^ k) (n / 256 ^ k % 256)]
    omega
theorem num_congr (c c' : List UInt8) : ∀ k, (∀ i, i < k → c[i]? = c'[i]?) → num c k = num c' k
  | 0, _ => rfl
  | k + 1, h => by
    show num c k * 256 + _ = num c' k * 256 + _
    rw [num_congr c c' k fun i hi => h i (by omega), h k (by omega)]
theorem valN8 (l : List UInt8) (h : num l 7 < 36028797018963968) : valN l 8 = (num l 8 : Int) := by
  show vstep (valN l 7) l[7]? = ((num l 7 * 256 + (l[7]?).elim 0 UInt8.toNat : Nat) : Int)
  rw [valN_num l 7 (by omega)]
  cases hk : l[7]? with
  | none =>
    show wrap64 ((num l 7 : Int) * 256) = _
    rw [IntWalk.wrap64_in _ (by omega)]
    simp
  | some b => exact vstep_small _ b h
theorem valN_be (n : Nat) (hn : n < 4294967296) : valN (be 8 n) 8 = (n : Int) := by
  have h8 := num_be n 8 []
  rw [List.append_nil, Nat.mod_eq_of_lt (by omega)] at h8
  have h7 : num (be 8 n) 8 = num (be 8 n) 7 * 256 + ((be 8 n)[7]?).elim 0 UInt8.toNat := rfl
  rw [valN8 _ (by omega), h8]

/-! ### contents that hold records -/
def Holds (c : List UInt8) (l : List (List UInt8)) (e : Nat) : Prop := headOk c ∧ 64 + valN (rd c 0 8) 8 = (e : Int) ∧ tok c 64 e = l.map fun s => (s, true)

theorem Holds.ge {c : List UInt8} {l : List (List UInt8)} {e : Nat} (h : Holds c l e) : 64 ≤ e ∧ e ≤ 16777280 ∧ (e = 64 ∨ e ≤ c.length) := by
  obtain ⟨⟨h1, h2, h3⟩, h4, _⟩ := h
  omega

theorem tok_congr (c c' : List UInt8) : ∀ (f a e : Nat), e ≤ a + f → (∀ i, a ≤ i → i < e → c[i]? = c'[i]?) → (∀ p ∈ tok c a e, p.2 = true) → tok c' a e = tok c a e
  | 0, a, e, h, _, _ => by rw [tok_end c a e (by omega), tok_end c' a e (by omega)]
  | f + 1, a, e, h, hc, hok => by
    by_cases h1 : a < e
    · by_cases h2 : e < a + 4 + num (rd c a 4) 4
      · rw [tok_bad c a e h1 h2] at hok
        have := hok _ (List.mem_singleton.2 rfl)
        cases this
      · have hr : rd c' a 4 = rd c a 4 := (rd_congr c c' a 4 fun i h3 h4 => hc i h3 (by omega)).symm
        rw [tok_good c a e h1 h2] at hok ⊢
        rw [tok_good c' a e h1 (by rw [hr]; exact h2), hr]
        congr 1
        · rw [rd_congr c c' (a + 4) _ fun i h3 h4 => hc i (by omega) (by omega)]
        · exact tok_congr c c' f _ e (by omega) (fun i h3 h4 => hc i (by omega) h4) fun p hp => hok p (List.mem_cons_of_mem _ hp)
    · rw [tok_end c a e h1, tok_end c' a e h1]

theorem tok_more (c : List UInt8) : ∀ (f a e e' : Nat), e ≤ a + f → a ≤ e → e ≤ e' → (∀ p ∈ tok c a e, p.2 = true) → tok c a e' = tok c a e ++ tok c e e'
  | 0, a, e, e', h, h1, _, _ => by
    obtain rfl : a = e := by omega
    rw [tok_end c a a (by omega), List.nil_append]
  | f + 1, a, e, e', h, hae, he, hok => by
    by_cases h1 : a < e
    · by_cases h2 : e < a + 4 + num (rd c a 4) 4
      · rw [tok_bad c a e h1 h2] at hok
        have := hok _ (List.mem_singleton.2 rfl)
        cases this
      · rw [tok_good c a e h1 h2] at hok ⊢
        rw [tok_good c a e' (by omega) (by omega), List.cons_append]
        congr 1
        exact tok_more c f _ e e' (by omega) (by omega) he fun p hp => hok p (List.mem_cons_of_mem _ hp)
    · obtain rfl : a = e := by omega
      rw [tok_end c a a (by omega), List.nil_append]

theorem Holds.oks {c : List UInt8} {l : List (List UInt8)} {e : Nat} (h : Holds c l e) : ∀ p ∈ tok c 64 e, p.2 = true := by
  rw [h.2.2]
  intro p hp
  obtain ⟨s, _, rfl⟩ := List.mem_map.1 hp
  rfl

theorem Holds.congr {c c' : List UInt8} {l : List (List UInt8)} {e : Nat} (h : Holds c l e) (h8 : ∀ i, i < 8 → by0 c i = by0 c' i) (hm : ∀ i, 64 ≤ i → i < e → c[i]? = c'[i]?) (hl : c.length ≤ c'.length) : Holds c' l e := by
  have hv := head_congr c c' h8
  have hok := h.oks
  obtain ⟨⟨h1, h2, h3⟩, h4, h5⟩ := h
  refine ⟨⟨by rw [← hv]; exact h1, by rw [← hv]; exact h2, ?_⟩, by rw [← hv]; exact h4, ?_⟩
  · rw [← hv]
    omega
  · rw [tok_congr c c' e 64 e (by omega) hm hok]
    exact h5

theorem tok_sum (c : List UInt8) : ∀ (f a e : Nat), e ≤ a + f → a ≤ e → e ≤ c.length → (∀ p ∈ tok c a e, p.2 = true) → e ≤ a + bs ((tok c a e).map Prod.fst)
  | 0, a, e, h, h1, _, _ => by omega
  | f + 1, a, e, h, hae, hc, hok => by
    by_cases h1 : a < e
    · by_cases h2 : e < a + 4 + num (rd c a 4) 4
      · rw [tok_bad c a e h1 h2] at hok
        have := hok _ (List.mem_singleton.2 rfl)
        cases this
      · rw [tok_good c a e h1 h2] at hok ⊢
        have ih := tok_sum c f _ e (by omega) (by omega) hc fun p hp => hok p (List.mem_cons_of_mem _ hp)
        have hlen : (rd c (a + 4) (num (rd c a 4) 4)).length = num (rd c a 4) 4 := by show (List.take _ (List.drop _ _)).length = _; rw [List.length_take, List.length_drop]; omega
        simp only [List.map_cons, bs, hlen]
        omega
    · omega
theorem Holds.sum {c : List UInt8} {l : List (List UInt8)} {e : Nat} (h : Holds c l e) : e ≤ 64 + bs l := by
  have hg := h.ge
  rcases hg.2.2 with h1 | h1
  · omega
  · have := tok_sum c e 64 e (by omega) hg.1 h1 h.oks
    rw [h.2.2] at this
    simpa [List.map_map, Function.comp_def] using this

theorem valN_nil : ∀ k, valN [] k = 0
  | 0 => rfl
  | k + 1 => by
    show vstep (valN [] k) none = 0
    rw [valN_nil k]
    show wrap64 (0 * 256) = 0
    rw [IntWalk.wrap64_in _ (by omega)]
    rfl
theorem holds_nil : Holds [] [] 64 := by
  have h : valN (rd [] 0 8) 8 = 0 := valN_nil 8
  exact ⟨⟨by omega, by omega, .inl h⟩, by rw [h]; rfl, rfl⟩

/-! ### lay, byte by byte -/
theorem lay_in (c : List UInt8) (off : Nat) (s : List UInt8) (i : Nat) (h1 : off ≤ i) (h2 : i < off + s.length) : (lay c off s)[i]? = s[i - off]? := by
  unfold lay
  rw [List.getElem?_append_right (by simp; omega), List.getElem?_append_left (by simp; omega)]
  congr 1
  simp
  omega
theorem lay_out (c : List UInt8) (off : Nat) (s : List UInt8) (i : Nat) (h1 : i < off ∨ off + s.length ≤ i) (h2 : i < c.length) : (lay c off s)[i]? = c[i]? := by
  unfold lay
  rcases h1 with h1 | h1
  · rw [List.getElem?_append_left (by simp; omega), List.getElem?_take, if_pos h1, List.getElem?_append_left h2]
  · rw [List.getElem?_append_right (by simp; omega), List.getElem?_append_right (by simp; omega), List.getElem?_drop]
    congr 1
    simp
    omega
theorem lay_by0 (c : List UInt8) (off : Nat) (s : List UInt8) (i : Nat) (h1 : i < off ∨ off + s.length ≤ i) : by0 (lay c off s) i = by0 c i := by
  by_cases h2 : i < c.length
  · unfold by0; rw [lay_out c off s i h1 h2]
  · have e1 : c[i]? = none := List.getElem?_eq_none (by omega)
    unfold by0
    rw [e1]
    by_cases h3 : i < (lay c off s).length
    · rw [length_lay] at h3
      have h4 : i < off := by omega
      unfold lay
      rw [List.getElem?_append_left (by simp; omega), List.getElem?_take, if_pos h4, List.getElem?_append_right (by omega), List.getElem?_replicate, if_pos (by omega)]
      rfl
    · rw [List.getElem?_eq_none (by omega)]

theorem Holds.far {c : List UInt8} {l : List (List UInt8)} {e : Nat} (h : Holds c l e) (off : Nat) (s : List UInt8) (ho : e ≤ off) : Holds (lay c off s) l e := by
  have hg := h.ge
  refine h.congr (fun i hi => (lay_by0 c off s i (.inl (by omega))).symm) (fun i h1 h2 => (lay_out c off s i (.inl (by omega)) (by omega)).symm) ?_
  rw [length_lay]; omega

/-- Contents behind a crash: each piece lies from e on. -/
theorem Holds.fall {l : List (List UInt8)} {e : Nat} (q : List Int) : ∀ (ps : List (Nat × List UInt8)) (k : Nat) (c : List UInt8), Holds c l e → (∀ p ∈ ps, e ≤ p.1) → Holds (Go.Proofs.Ytnfmcmjfpbmloaa.fall q k c ps) l e
  | [], _, _, h, _ => h
  | p :: ps, k, c, h, hp => by
    unfold Go.Proofs.Ytnfmcmjfpbmloaa.fall
    refine Holds.fall q ps (k + 1) _ ?_ fun p' h' => hp p' (List.mem_cons_of_mem _ h')
    split
    · exact h.far _ _ (hp p (List.mem_cons_self ..))
    · exact h
theorem pieces_ge : ∀ (f off : Nat) (s : List UInt8), s.length ≤ f → ∀ p ∈ pieces off s, off ≤ p.1
  | 0, off, s, h, p, hp => by
    obtain rfl : s = [] := List.eq_nil_of_length_eq_zero (by omega)
    simp [pieces_nil] at hp
  | f + 1, off, s, h, p, hp => by
    by_cases hs : s = []
    · subst hs; simp [pieces_nil] at hp
    · have hl : 0 < s.length := List.length_pos_iff.2 hs
      rw [pieces_cons off s hs] at hp
      rcases List.mem_cons.1 hp with rfl | hp
      · exact Nat.le_refl _
      · have := pieces_ge f _ _ (by rw [List.length_drop]; omega) p hp
        omega

/-- The record is laid at the end, then the head is written. -/
theorem Holds.snoc {c : List UInt8} {l : List (List UInt8)} {e : Nat} (h : Holds c l e) (s : List UInt8) (hs : e + 4 + s.length ≤ 16777280) :
    Holds (lay (lay c e (be 4 s.length ++ s)) 0 (be 8 (e + 4 + s.length - 64))) (l ++ [s]) (e + 4 + s.length) := by
  have hg := h.ge
  have hA := h.far e (be 4 s.length ++ s) (Nat.le_refl _)
  have hrec : (be 4 s.length ++ s).length = 4 + s.length := by rw [List.length_append, length_be]
  have hAl : (lay c e (be 4 s.length ++ s)).length = max c.length (e + (4 + s.length)) := by rw [length_lay, hrec]
  generalize hA' : lay c e (be 4 s.length ++ s) = A at *
  have hb8 := length_be 8 (e + 4 + s.length - 64)
  have hB : ∀ i, 8 ≤ i → i < A.length → (lay A 0 (be 8 (e + 4 + s.length - 64)))[i]? = A[i]? := fun i h1 h2 => lay_out A 0 _ i (.inr (by rw [hb8]; omega)) h2
  have hBl : (lay A 0 (be 8 (e + 4 + s.length - 64))).length = A.length := by rw [length_lay, hb8]; omega
  have hv : valN (rd (lay A 0 (be 8 (e + 4 + s.length - 64))) 0 8) 8 = ((e + 4 + s.length - 64 : Nat) : Int) := by
    have : rd (lay A 0 (be 8 (e + 4 + s.length - 64))) 0 8 = be 8 (e + 4 + s.length - 64) := by
      apply List.ext_getElem?
      intro i
      by_cases hi : i < 8
      · rw [rd_get _ _ _ _ hi, Nat.zero_add, lay_in A 0 _ i (by omega) (by rw [hb8]; omega), Nat.sub_zero]
      · rw [List.getElem?_eq_none (by have := length_rd (lay A 0 (be 8 (e + 4 + s.length - 64))) 0 8; omega), List.getElem?_eq_none (by rw [hb8]; omega)]
    rw [this, valN_be _ (by omega)]
  generalize lay A 0 (be 8 (e + 4 + s.length - 64)) = B at *
  have hAe : ∀ i, i < 4 + s.length → B[e + i]? = (be 4 s.length ++ s)[i]? := by
    intro i hi
    rw [hB _ (by omega) (by omega), ← hA', lay_in c e _ _ (by omega) (by rw [hrec]; omega)]
    congr 1
    omega
  refine ⟨⟨by rw [hv]; omega, by rw [hv]; omega, by rw [hv]; omega⟩, by rw [hv]; omega, ?_⟩
  have hok : ∀ p ∈ tok B 64 e, p.2 = true := by
    rw [tok_congr A B e 64 e (by omega) (fun i h1 h2 => (hB i (by omega) (by omega)).symm) hA.oks]
    exact hA.oks
  rw [tok_more B e 64 e (e + 4 + s.length) (by omega) hg.1 (by omega) hok, tok_congr A B e 64 e (by omega) (fun i h1 h2 => (hB i (by omega) (by omega)).symm) hA.oks, hA.2.2, List.map_append]
  congr 1
  have hn : num (rd B e 4) 4 = s.length := by
    rw [num_congr (rd B e 4) (be 4 s.length ++ s) 4 (fun i hi => by rw [rd_get _ _ _ _ hi]; exact hAe i (by omega)), num_be, Nat.mod_eq_of_lt (by omega)]
  rw [tok_good B e _ (by omega) (by rw [hn]; omega), hn, tok_end B _ _ (by omega)]
  show [(_, true)] = [(s, true)]
  congr 2
  apply List.ext_getElem?
  intro i
  by_cases hi : i < s.length
  · rw [rd_get _ _ _ _ hi, show e + 4 + i = e + (4 + i) by omega, hAe _ (by omega), List.getElem?_append_right (by rw [length_be]; omega), length_be]
    congr 1
    omega
  · rw [List.getElem?_eq_none (by have := length_rd B (e + 4) s.length; omega), List.getElem?_eq_none (by omega)]
end Go.Proofs.Ytnfmcmjfpbmloaa
