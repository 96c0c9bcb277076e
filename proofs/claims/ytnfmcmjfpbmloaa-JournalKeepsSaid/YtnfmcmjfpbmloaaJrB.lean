/-
  The records of the part that counts, plain; strings.Clone; the iterator records.
-/
import Derived.RangeFuncNested
import Derived.RangeFuncBound
import Derived.RangeFuncCalls
import Derived.RangeFuncLeaves
import Derived.RangeFuncBox
import Derived.Shelf.Abstract
import Derived.Shelf.RegionOpen
import Derived.WalkKit
import Derived.OwnWalkIn
import Derived.TacticsInMore
import Derived.LoopNIn
import Derived.LoopIn
import Derived.Lib.Strings
import Derived.Lib.Walk
import Derived.Lib.BufferWrite
import Derived.Lib.UnsafeStr
import Derived.Laws.MakeOwn
import Derived.Test.YtnfmcmjfpbmloaaJrA
namespace Go.Proofs.Ytnfmcmjfpbmloaa
open Go.RowKit Go.Shelf
attribute [local go_sem] Oper.semAt_some

/-! ### plain -/
/-- So many bytes from a place on. -/
def rd (c : List UInt8) (off n : Nat) : List UInt8 := (c.drop off).take n
theorem length_rd (c : List UInt8) (off n : Nat) : (rd c off n).length ≤ n := by unfold rd; rw [List.length_take]; omega
theorem read_rd (σ : DS) (off n : Nat) : σ.read (off : Int) (n : Int) = rd σ.now off n := by
  unfold DS.read rd
  by_cases h : n = 0
  · subst h; simp
  · rw [if_neg (by omega), Int.toNat_natCast, Int.toNat_natCast]

/-- The number that the first bytes denote, as a natural number. -/
def num (l : List UInt8) : Nat → Nat
  | 0 => 0
  | k + 1 => num l k * 256 + (l[k]?.elim 0 UInt8.toNat)
theorem num_lt (l : List UInt8) : ∀ k, num l k < 256 ^ k
  | 0 => by simp [num]
  | k + 1 => by
    have h := num_lt l k
    have : l[k]?.elim 0 UInt8.toNat < 256 := by
      cases l[k]? with
      | none => simp
      | some b => exact b.toNat_lt
    show num l k * 256 + _ < 256 ^ k * 256
    omega
theorem valN_num (l : List UInt8) : ∀ k, k ≤ 7 → valN l k = (num l k : Int)
  | 0, _ => rfl
  | k + 1, h => by
    have ih := valN_num l k (by omega)
    have hlt := num_lt l k
    have h6 : 256 ^ k ≤ 256 ^ 6 := Nat.pow_le_pow_right (by omega) (by omega)
    have hx : num l k < 36028797018963968 := by
      have : (256 : Nat) ^ 6 = 281474976710656 := by decide
      omega
    show vstep (valN l k) l[k]? = ((num l k * 256 + l[k]?.elim 0 UInt8.toNat : Nat) : Int)
    rw [ih]
    cases hk : l[k]? with
    | none =>
      show wrap64 ((num l k : Int) * 256) = _
      rw [IntWalk.wrap64_in _ (by omega)]
      simp
    | some b => exact vstep_small _ b hx

/-- What the iterator hands out: the records, and at the end a false one where the form is not right. -/
def toks (c : List UInt8) : Nat → Nat → Nat → List (List UInt8 × Bool)
  | 0, _, _ => []
  | f + 1, at', e => if at' < e then (if e < at' + 4 + num (rd c at' 4) 4 then [([], false)] else (rd c (at' + 4) (num (rd c at' 4) 4), true) :: toks c f (at' + 4 + num (rd c at' 4) 4) e) else []
theorem toks_fuel (c : List UInt8) : ∀ (f f' a e : Nat), e ≤ a + f → e ≤ a + f' → toks c f a e = toks c f' a e
  | 0, 0, _, _, _, _ => rfl
  | 0, f' + 1, a, e, h, _ => by unfold toks; rw [if_neg (by omega)]
  | f + 1, 0, a, e, _, h => by unfold toks; rw [if_neg (by omega)]
  | f + 1, f' + 1, a, e, h, h' => by
    unfold toks
    by_cases h1 : a < e
    · rw [if_pos h1, if_pos h1]
      by_cases h2 : e < a + 4 + num (rd c a 4) 4
      · rw [if_pos h2, if_pos h2]
      · rw [if_neg h2, if_neg h2, toks_fuel c f f' _ _ (by omega) (by omega)]
    · rw [if_neg h1, if_neg h1]
def tok (c : List UInt8) (a e : Nat) : List (List UInt8 × Bool) := toks c (e - a) a e
theorem tok_end (c : List UInt8) (a e : Nat) (h : ¬ a < e) : tok c a e = [] := by
  unfold tok
  rw [show e - a = 0 by omega]
  rfl
theorem tok_bad (c : List UInt8) (a e : Nat) (h : a < e) (h2 : e < a + 4 + num (rd c a 4) 4) : tok c a e = [([], false)] := by
  unfold tok
  obtain ⟨f, hf⟩ : ∃ f, e - a = f + 1 := ⟨e - a - 1, by omega⟩
  rw [hf]
  unfold toks
  rw [if_pos h, if_pos h2]
theorem tok_good (c : List UInt8) (a e : Nat) (h : a < e) (h2 : ¬ e < a + 4 + num (rd c a 4) 4) : tok c a e = (rd c (a + 4) (num (rd c a 4) 4), true) :: tok c (a + 4 + num (rd c a 4) 4) e := by
  unfold tok
  obtain ⟨f, hf⟩ : ∃ f, e - a = f + 1 := ⟨e - a - 1, by omega⟩
  rw [hf]
  conv => lhs; unfold toks
  rw [if_pos h, if_neg h2]
  congr 1
  exact toks_fuel c _ _ _ _ (by omega) (by omega)
theorem tok_len (c : List UInt8) : ∀ (f a e : Nat), e ≤ a + f → (tok c a e).length ≤ e - a
  | 0, a, e, h => by rw [tok_end c a e (by omega)]; simp
  | f + 1, a, e, h => by
    by_cases h1 : a < e
    · by_cases h2 : e < a + 4 + num (rd c a 4) 4
      · rw [tok_bad c a e h1 h2]; simp; omega
      · rw [tok_good c a e h1 h2, List.length_cons]
        have := tok_len c f (a + 4 + num (rd c a 4) 4) e (by omega)
        omega
    · rw [tok_end c a e h1]; simp

/-- A token that is handed to the loop's body: a text, not too long, and a flag. -/
structure Tok where
  s : ByteArray
  ok : Bool
  le : s.size ≤ 4294967296
def Tok.pair (x : Tok) : ByteArray × Bool := (x.s, x.ok)
def Tok.vals (x : Tok) : Array Value := #[.string x.s, .bool x.ok]
/-- What the tokens are, as the walk hands them on. -/
def tokL (c : List UInt8) (a e : Nat) : List (ByteArray × Bool) := (tok c a e).map fun p => (str p.1, p.2)
theorem toks_exist : ∀ (l : List (List UInt8 × Bool)), (∀ p ∈ l, p.1.length ≤ 4294967296) → ∃ xs : List Tok, xs.map Tok.pair = l.map fun p => (str p.1, p.2)
  | [], _ => ⟨[], rfl⟩
  | p :: l, h => by
    obtain ⟨xs, hx⟩ := toks_exist l fun q hq => h q (List.mem_cons_of_mem _ hq)
    exact ⟨⟨str p.1, p.2, by rw [str_size]; exact h p (List.mem_cons_self ..)⟩ :: xs, by simp [hx, Tok.pair]⟩

theorem tok_size (c : List UInt8) : ∀ (f a e : Nat), e ≤ a + f → ∀ p ∈ tok c a e, p.1.length ≤ e
  | 0, a, e, h => by rw [tok_end c a e (by omega)]; simp
  | f + 1, a, e, h => by
    by_cases h1 : a < e
    · by_cases h2 : e < a + 4 + num (rd c a 4) 4
      · rw [tok_bad c a e h1 h2]; simp
      · rw [tok_good c a e h1 h2]
        intro p hp
        rcases List.mem_cons.1 hp with rfl | hp
        · have := length_rd c (a + 4) (num (rd c a 4) 4)
          simp only
          omega
        · exact tok_size c f _ e (by omega) p hp
    · rw [tok_end c a e h1]; simp

/-! ### strings.Clone -/
set_option maxHeartbeats 4000000 in
set_option maxRecDepth 100000 in
theorem slclone_any (s : ByteArray) (w : World) (hlim : s.size ≤ 281474976710656) :
    Calls Try.prog 68 #[.string s] w fun e w' => e = .returned (.string s) ∧ Below w.heap.size w w' := by
  by_cases h0 : s.size = 0
  · have hs : s = ⟨#[]⟩ := by
      apply ByteArray.ext
      exact Array.eq_empty_of_size_eq_zero h0
    subst hs
    go_enter Try.func68, Try.ntmps68
    go_wp2
    go_ret
    exact ⟨rfl, Below.refl _ _⟩
  · obtain ⟨i0, hi, hz0, hz1, hz2⟩ := info_parts u8_info
    have hinfo : (Try.prog.info? 5).map (·.size) = some 1 := u8_size
    have hco : Try.prog.cellsOf 5 = 1 := by kernel_rfl
    obtain ⟨M, hM⟩ : ∃ M, M = madeCells (Value.int .u8 0).cells (((s.size : Nat) : Int).toNat * i0.size) := ⟨_, rfl⟩
    have hMs : M.size = s.size := by rw [hM, size_madeCells, hz1]; simp
    have hmk : ∀ W : World, (Instr.makeSlice 56 (.int .i64 (s.size : Int)) (.int .i64 (s.size : Int))).run Try.prog W = .ok (.slice (some ⟨W.heap.size, 0, none⟩) s.size s.size) (W.alloc (.cells M 5)) := fun W => by
      have h := run_make (P := Try.prog) W 56 5 i0 (.int .u8 0) Try.underlying56 hi hz0 .i64 .i64 (s.size : Int) (s.size : Int) (by omega) (by omega) (by rw [hz2]; omega) (by omega)
      rw [← hM] at h
      simpa using h
    clear hM
    have hcp := Lib.run_copy_row_string (P := Try.prog) (w.alloc (.cells M 5)) 56 9 3 5 w.heap.size 0 s.size s.size s M 5 Try.underlying56 hinfo (heap_alloc_new w _) (Nat.le_refl _) (by omega)
    obtain ⟨Y, hY⟩ : ∃ Y, Y = (M.toList.take 0 ++ Lib.byteCells s.data.toList ++ M.toList.drop (0 + s.size)).toArray := ⟨_, rfl⟩
    rw [← hY] at hcp
    have hYl : Y.toList = Lib.byteCells s.data.toList := by
      rw [hY, List.toList_toArray, List.take_zero, List.nil_append, List.drop_of_length_le (by rw [Array.length_toList]; omega), List.append_nil]
    have hYs : Y.size = s.size := by rw [← Array.length_toList, hYl, Lib.byteCells_length, ← Lib.size_eq]
    have hgY : ((w.alloc (.cells M 5)).setRow w.heap.size Y).heap[w.heap.size]? = some (.cells Y 5 (0, 0)) := setRow_heap _ _ M _ 5 (0, 0) (heap_alloc_new w _)
    have hne : s.data.toList ≠ [] := fun e => h0 (by rw [Lib.size_eq, e]; rfl)
    have hUS := Lib.run_unsafeString_row (P := Try.prog) ((w.alloc (.cells M 5)).setRow w.heap.size Y) 106 3 9 5 Try.underlying106 hco w.heap.size Y.size (by unfold World.shape?; rw [hgY]) s.data.toList hne (by rw [← Lib.size_eq]; omega) (by rw [← Lib.size_eq]; omega)
      (fun j x hx => Lib.cells_of_row hgY Y.size j _ (by rw [List.take_of_length_le (by rw [Array.length_toList]; exact Nat.le_refl _), hYl]; simp [Lib.byteCells, hx]))
    rw [← Lib.size_eq] at hUS
    clear hY
    go_enter Try.func68, Try.ntmps68
    go_wp2
    go_ret
    have hb1 : Below w.heap.size w (w.alloc (.cells M 5)) := (Below.refl _ w).alloc (Nat.le_refl _) _
    have hb2 : Below w.heap.size (w.alloc (.cells M 5)) ((w.alloc (.cells M 5)).setRow w.heap.size Y) := ⟨rfl, rfl, rfl, by simp, fun k hk => setRow_other _ _ _ _ (by omega)⟩
    exact ⟨rfl, Lib.below_freeze (hb1.trans hb2) (p := ⟨w.heap.size, 0, none⟩) (Nat.le_refl _) _⟩

set_option maxHeartbeats 1000000 in
theorem clone_any (s : ByteArray) (w : World) (hlim : s.size ≤ 281474976710656) :
    Calls Try.prog 61 #[.string s] w fun e w' => e = .returned (.string s) ∧ Below w.heap.size w w' := by
  go_enter Try.func61, Try.ntmps61
  go_wp2_with (go_at_call 68; refine (slclone_any s _ hlim).mono ?_; rintro e w1 ⟨rfl, hb⟩)
  go_ret
  exact ⟨rfl, hb⟩
end Go.Proofs.Ytnfmcmjfpbmloaa
