/-
  The reference journal: Opens (printed by mkop.py).
-/
import Derived.Test.YtnfmcmjfpbmloaaJrH
import Derived.Deep.DrawnRows
namespace Go.Proofs.Ytnfmcmjfpbmloaa
open Go.RowKit

/-- How many bytes records take, with what is reserved for each. -/
def bs : List (List UInt8) → Nat
  | [] => 0
  | s :: l => bs l + s.length + 16
theorem bs_append (l k : List (List UInt8)) : bs (l ++ k) = bs l + bs k := by
  induction l with
  | nil => simp [bs]
  | cons a l ih => simp only [List.cons_append, bs, ih]; omega

section
variable {w0 w : World} {L : List HP} {gm : Nat}
theorem at3 {a b c P : HP} {i : Nat} (h : L[i]? = some P) : (a :: b :: c :: L)[i + 3]? = some P := h

theorem at_list_new {v' : Value} {l' : List (List UInt8)} {w1 : World} (h : At w0 w L) (hg : (w.alloc (.cells #[] 9)).grownBy w1 (Value.slice (some ⟨w.heap.size, 0, none⟩) 0 0).ownBlock) (hown : w1.ownsRow 0 9 1 v' l'.length (strs l')) (hat : v'.ownBlock = (Value.slice (some ⟨w.heap.size, 0, none⟩) 0 0).ownBlock ∨ v'.ownBlock = some (w.alloc (.cells #[] 9)).heap.size) :
    At w0 w1 (sl v' l' :: L) := by
  refine h.more (P := sl v' l') (S := fun k => v'.ownBlock = some k) ?_ ⟨hown, fun _ => Iff.rfl⟩ ?_
  · exact ((Turns.refl No w).alloc _ |>.mono (T := fun k => w.heap.size ≤ k) (fun _ _ h => h.elim) |>.grown hg fun k hk => .inl (by simp [Value.ownBlock] at hk; omega)).toBelow (fun _ h => h) (Nat.le_refl _)
  · intro k hk
    rcases hat with h1 | h1
    · rw [hk] at h1; simp [Value.ownBlock] at h1; omega
    · rw [hk, World.size_alloc] at h1; injection h1 with h1; omega

theorem own_empty (w : World) : (w.alloc (.cells #[] 9)).ownsRow 0 9 1 (.slice (some ⟨w.heap.size, 0, none⟩) 0 0) 0 [] :=
  ⟨rfl, .inr ⟨w.heap.size, 0, _, rfl, Nat.zero_le _, heap_alloc_new w _, Nat.le_refl _, by simp only [maxLen]; omega, by simp, by simp⟩⟩

theorem bs_take (l : List (List UInt8)) (k : Nat) (s : List UInt8) (h : l[k]? = some s) : (bs (l.take (k + 1)) : Int) = (bs (l.take k) : Int) + (s.length : Int) + 16 := by
  rw [List.take_add_one, h, bs_append]
  simp [bs]
  omega
theorem bs_take_le (l : List (List UInt8)) (k : Nat) : bs (l.take k) ≤ bs l := by
  have := bs_append (l.take k) (l.drop k)
  rw [List.take_append_drop] at this
  omega

set_option maxRecDepth 100000 in
set_option maxHeartbeats 4000000 in
theorem opens_same {l mb recs : List (List UInt8)} {by' : Int} {br : Bool} {v : Value} (h : RJ w0 w gm l mb br by' L) (i : Nat) (hi : L[i]? = some (sl v recs)) (hlr : recs.length ≤ 1000000) (hll : l.length ≤ 1000000) (hbr : bs recs ≤ 1000000000) (hrl : recs = l) :
    Calls Try.prog 47 #[.pointer (some ⟨gm, 0, none⟩), v] w fun r w' => r = .returned (.bool true) ∧ RJ w0 w' gm recs [] false (bs recs) L := by
  obtain ⟨i0, hi0, hz0, hz1, hz2⟩ := info_parts str_info
  obtain ⟨vL, vM, h⟩ := h
  obtain ⟨S9, hown9, _⟩ := h.get (i + 3) (at3 hi)
  obtain ⟨Av, cv, rfl, _⟩ := own_slice hown9
  clear hown9
  have HI := Lib.hid hi
  have H := Lib.hid h
  have c0 := h.cell 0 rfl 0 _ rfl
  have HRL := Lib.hid hrl
  clear hrl
  clear h hi
  go_enter Try.func47, Try.ntmps47
  go_wp2_with fail
  refine (at_same H.out (H.out.list (i + 3) (at3 HI.out)) (H.out.list 1 rfl) (by omega) (by omega)).mono ?_
  rintro r w1 ⟨rfl, h1⟩
  rw [decide_eq_true HRL.out]
  clear H
  have H2 := Lib.hid h1
  clear h1 c0 HRL
  -- from here on: the list is copied
  obtain ⟨w2, hw2⟩ : ∃ w2, w2 = w1 := ⟨_, rfl⟩
  rw [← hw2] at H2 ⊢
  clear hw2
  have c4 := (H2.out.alloc (.cells #[] 9)).cell 0 rfl 0 _ rfl
  have HRD := Lib.hid ((H2.out.alloc (.cells #[] 9)).list (i + 3) (at3 HI.out))
  have mk : ∀ v' w3, w3.ownsRow 0 9 1 v' (0 + recs.length) ([] ++ strs recs) → (w2.alloc (.cells #[] 9)).grownBy w3 (Value.slice (some ⟨w2.heap.size, 0, none⟩) 0 0).ownBlock → (v'.ownBlock = (Value.slice (some ⟨w2.heap.size, 0, none⟩) 0 0).ownBlock ∨ v'.ownBlock = some (w2.alloc (.cells #[] 9)).heap.size) →
    ∃ A1 c1, v' = .slice A1 recs.length c1 ∧ w3.cell? ⟨gm, 0, none⟩ = some vL ∧ w3.frozen? ⟨gm, 0, none⟩ = false ∧ w3.cell? ⟨gm, 1, none⟩ = some vM ∧ w3.frozen? ⟨gm, 1, none⟩ = false ∧ w3.cell? ⟨gm, 2, none⟩ = some (.bool br) ∧ w3.frozen? ⟨gm, 2, none⟩ = false ∧ w3.cell? ⟨gm, 3, none⟩ = some (.int .i64 by') ∧ w3.frozen? ⟨gm, 3, none⟩ = false ∧
      Hid (At w0 ((((w3.setCell ⟨gm, 0, none⟩ v').setCell ⟨gm, 2, none⟩ (.bool false)).setCell ⟨gm, 1, none⟩ (.slice none 0 0)).setCell ⟨gm, 3, none⟩ (.int .i64 0)) (rjL gm v' (.slice none 0 0) recs [] false 0 L)) := by
    intro v' w3 k1 k2 k3
    rw [Nat.zero_add, List.nil_append] at k1
    obtain ⟨A1, c1, rfl, _⟩ := own_slice k1
    have hA := at_list_new H2.out k2 k1 k3
    have hfz := hA.block 1 rfl
    have hB := at_set (at_set (at_set (at_set hA 1 rfl 0 (.slice A1 recs.length c1) _ rfl) 1 rfl 2 (.bool false) _ rfl) 1 rfl 1 (.slice none 0 0) _ rfl) 1 rfl 3 (.int .i64 0) _ rfl
    have hC := (hB.perm ((List.perm_append_comm (l₁ := [sl (.slice A1 recs.length c1) recs, bl gm 74 #[.slice A1 recs.length c1, .slice none 0 0, .bool false, .int .i64 0]]) (l₂ := [sl vL l, sl vM mb])).append_right L)).tail.tail
    have hD := at_nil_list (hC.perm (.swap _ _ _))
    refine ⟨A1, c1, rfl, hA.cell 1 rfl 0 _ rfl, frozen_of_row w3 _ _ _ _ hfz, hA.cell 1 rfl 1 _ rfl, frozen_of_row w3 _ _ _ _ hfz, hA.cell 1 rfl 2 _ rfl, frozen_of_row w3 _ _ _ _ hfz, hA.cell 1 rfl 3 _ rfl, frozen_of_row w3 _ _ _ _ hfz, ?_⟩
    exact hD.perm ((List.perm_append_comm (l₁ := [sl (.slice none 0 0) []]) (l₂ := [bl gm 74 #[.slice A1 recs.length c1, .slice none 0 0, .bool false, .int .i64 0], sl (.slice A1 recs.length c1) recs])).append_right L)
  have Hmk := Lib.hid mk
  clear mk
  go_wp2_with (at_builtin; refine wpList_append_onto' _ rfl (.tmp 52) (.tmp 53) 64 rfl 9 i0 _ 1 16 Try.underlying64 hi0 hz0 hz1 hz2 rfl (by decide) (.slice (some ⟨w2.heap.size, 0, none⟩) 0 0) 0 [] rfl (own_empty w2) (.slice Av recs.length cv) recs.length (strs recs) rfl HRD.out (by unfold strs; simp [Value.oneCell']) (by simp only [maxLen]; omega) (by omega) ?_; intro v1 w3 hown1 hg1 hat1; obtain ⟨A1, c1, hv1, k0, k1, k2, k3, k4, k5, k6, k7, HP⟩ := Hmk.out v1 w3 hown1 hg1 hat1; subst hv1; clear hown1 hg1 hat1)
  clear Hmk HRD
  generalize ((((w3.setCell ⟨gm, 0, none⟩ (.slice A1 recs.length c1)).setCell ⟨gm, 2, none⟩ (.bool false)).setCell ⟨gm, 1, none⟩ (.slice none 0 0)).setCell ⟨gm, 3, none⟩ (.int .i64 0)) = w4 at *
  go_loopw [6] (fun i wr => ∃ k : Nat, k ≤ recs.length ∧ i = .int .i64 (k : Int) ∧ Hid (At w0 wr (rjL gm (.slice A1 recs.length c1) (.slice none 0 0) recs [] false (bs (recs.take k)) L))) (fun i _ => recs.length - (intOf i).toNat)
  case atStart => exact ⟨0, by omega, rfl, HP⟩
  case round =>
    obtain ⟨k, hk, rfl, HK⟩ := hrel
    by_cases hlt : k < recs.length
    · have hltI : (k : Int) < (recs.length : Int) := by omega
      obtain ⟨x, hx⟩ : ∃ x, recs[k]? = some x := ⟨_, List.getElem?_eq_getElem hlt⟩
      obtain ⟨b1, o1, hA, cx⟩ := reads_at (HK.out.list (i + 3) (at3 HI.out)) k x hx
      subst hA
      have hbt := bs_take_le recs (k + 1)
      have HBT := Lib.hid (bs_take recs k x hx)
      have hsum : (bs (recs.take k) : Int) + (x.length : Int) + 16 ≤ 1000000000 := by have := HBT.out; omega
      have hxs : ((str x).size : Int) = (x.length : Int) := by rw [str_size]
      obtain ⟨q, hq⟩ : ∃ q : Int, (bs (recs.take k) : Int) = q := ⟨_, rfl⟩
      have hq0 : 0 ≤ q := by omega
      rw [hq] at HK hsum HBT
      obtain ⟨y, hy⟩ : ∃ y : Int, (x.length : Int) = y := ⟨_, rfl⟩
      have hy0 : 0 ≤ y := by omega
      rw [hy] at hxs hsum HBT
      have HXS := Lib.hid hxs
      have c3 := HK.out.cell 0 rfl 3 _ rfl
      have f3 : wr.frozen? ⟨gm, 3, none⟩ = false := frozen_of_row wr _ _ _ _ (HK.out.block 0 rfl)
      have q1 : IntKind.i64.wrap (q + y) = q + y := IntWalk.i64_in _ (by omega)
      have q2 : IntKind.i64.wrap (q + y + 16) = q + y + 16 := IntWalk.i64_in _ (by omega)
      have HN : Hid (At w0 (wr.setCell ⟨gm, 3, none⟩ (.int .i64 (q + y + 16))).drew (rjL gm (.slice A1 recs.length c1) (.slice none 0 0) recs [] false (bs (recs.take (k + 1))) L)) := by
        rw [HBT.out]
        exact (at_set HK.out 0 rfl 3 (.int .i64 (q + y + 16)) _ rfl).drew
      clear hx hbt hq hy
      go_wp2_with fail
      go_region
      all_goals
        go_wp2_with fail
        exact ⟨⟨k + 1, by omega, by go_num, HN⟩, by simp [intOf]; omega⟩
    · have hltI : ¬ (k : Int) < (recs.length : Int) := by omega
      go_wp2_with fail
      go_ret
      have h9 := HK.out
      rw [List.take_of_length_le (by omega)] at h9
      exact ⟨rfl, _, _, h9⟩
end
end Go.Proofs.Ytnfmcmjfpbmloaa
