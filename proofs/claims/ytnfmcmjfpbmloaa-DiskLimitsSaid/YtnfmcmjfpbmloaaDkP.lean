/-
  The contracts of Where, Long and survive.
-/
import Derived.Test.YtnfmcmjfpbmloaaDkO
import Derived.Test.YtnfmcmjfpbmloaaDkL
namespace Go.Proofs.Ytnfmcmjfpbmloaa
open Go.RowKit

def Act.val (a : Act) : Value := .agg #[.int .i64 a.kind, .int .i64 a.off, .int .i64 a.n, .string a.text]
def Act.spot (a : Act) : Int := if a.off < 0 ∨ 16777216 < a.off then a.off else a.off % 300

set_option maxHeartbeats 400000 in
theorem where_any (w : World) (a : Act) : Calls Try.prog 50 #[.agg #[.int .i64 a.kind, .int .i64 a.off, .int .i64 a.n, .string a.text]] w fun e w' => e = .returned (.int .i64 a.spot) ∧ w' = w.alloc (.cells #[.int .i64 a.kind, .int .i64 a.off, .int .i64 a.n, .string a.text] 33) := by
  have HS : Hid (a.spot = if a.off < 0 ∨ 16777216 < a.off then a.off else a.off % 300) := rfl
  generalize a.spot = sp at *
  by_cases h0 : a.off < 0
  · go_enter Try.func50, Try.ntmps50
    go_wp2
    go_ret
    exact ⟨by rw [HS.out, if_pos (.inl h0)]; rfl, rfl⟩
  by_cases h1 : 16777216 < a.off
  · have h0' : 0 ≤ a.off := by omega
    go_enter Try.func50, Try.ntmps50
    go_wp2
    go_ret
    exact ⟨by rw [HS.out, if_pos (.inr h1)]; rfl, rfl⟩
  · have h0' : 0 ≤ a.off := by omega
    have h1' : a.off ≤ 16777216 := by omega
    go_enter Try.func50, Try.ntmps50
    go_wp2_with (go_at_call 29; refine (mod_any a.off 300 _ (by omega) (by omega)).mono ?_; rintro e w1 ⟨rfl, rfl⟩)
    go_ret
    exact ⟨by rw [HS.out, if_neg (by omega)]; rfl, rfl⟩

/-- The text of an act, made long enough. -/
def growTo : Nat → List UInt8 → List UInt8 → Nat → List UInt8
  | 0, s, _, _ => s
  | f + 1, s, t, m => if 0 < s.length ∧ s.length < m then growTo f (s ++ t) t m else s
def Act.txt (a : Act) : List UInt8 := (growTo 200 a.text.data.toList a.text.data.toList (a.n % 200).toNat).take 200
theorem Act.txt_le (a : Act) : a.txt.length ≤ 200 := by unfold Act.txt; rw [List.length_take]; omega
theorem growTo_done (f : Nat) (s t : List UInt8) (m : Nat) (h : ¬ (0 < s.length ∧ s.length < m)) : growTo f s t m = s := by
  cases f with
  | zero => rfl
  | succ f => unfold growTo; rw [if_neg h]
theorem growTo_step (f : Nat) (s t : List UInt8) (m : Nat) (h : 0 < s.length ∧ s.length < m) : growTo (f + 1) s t m = growTo f (s ++ t) t m := by
  conv => lhs; unfold growTo
  rw [if_pos h]

set_option maxRecDepth 100000 in
set_option maxHeartbeats 400000 in
theorem long_any (w : World) (a : Act) : Calls Try.prog 52 #[.agg #[.int .i64 a.kind, .int .i64 a.off, .int .i64 a.n, .string a.text]] w fun e w' => e = .returned (.string (str a.txt)) ∧ w' = w.alloc (.cells #[.int .i64 a.kind, .int .i64 a.off, .int .i64 a.n, .string a.text] 33) := by
  obtain ⟨m, hm⟩ : ∃ m : Nat, a.n % 200 = (m : Int) := ⟨(a.n % 200).toNat, by omega⟩
  have hm2 : m < 200 := by omega
  have HX : Hid (a.txt = (growTo 200 a.text.data.toList a.text.data.toList m).take 200) := by
    show _ = _
    unfold Act.txt
    rw [hm, Int.toNat_natCast]
  go_enter Try.func52, Try.ntmps52
  go_wp2
  go_loop [3] (fun x => ∃ (f : Nat) (s : ByteArray), x = .string s ∧ Hid (m ≤ s.size + f) ∧ Hid (a.text.size ≤ s.size ∧ (0 < s.size → 0 < a.text.size)) ∧ Hid (growTo f s.data.toList a.text.data.toList m = growTo 200 a.text.data.toList a.text.data.toList m)) (fun x => m - strLen x)
  case atStart => exact ⟨200, a.text, rfl, by show m ≤ _; omega, ⟨Nat.le_refl _, id⟩, rfl⟩
  case round =>
    obtain ⟨f, s, rfl, H1, H2, H3⟩ := hrel
    by_cases hg : 0 < s.size ∧ s.size < m
    · obtain ⟨g1, g2⟩ := hg
      have h2 := H2.out.1
      have hp := H2.out.2 g1
      have hcat : s.size + a.text.size ≤ 33554432 := by omega
      have g2' : (s.size : Int) < (m : Int) := by omega
      obtain ⟨f', hf'⟩ : ∃ f', f = f' + 1 := ⟨f - 1, by have := H1.out; omega⟩
      subst hf'
      have H4 : Hid (growTo f' (s ++ a.text).data.toList a.text.data.toList m = growTo 200 a.text.data.toList a.text.data.toList m) := by
        show _ = _
        rw [app_data, ← growTo_step f' _ _ _ (by simpa using ⟨g1, g2⟩)]
        exact H3.out
      have H5 := Lib.hid (show m ≤ (s ++ a.text).size + f' by simp; have := H1.out; omega)
      have H6 := Lib.hid (show a.text.size ≤ (s ++ a.text).size ∧ (0 < (s ++ a.text).size → 0 < a.text.size) from ⟨by simp, fun _ => hp⟩)
      have H7 := Lib.hid (show m - (s ++ a.text).size < m - s.size by simp; omega)
      clear h2 hp
      go_wp2_with (go_at_call 29; refine (mod_any a.n 200 _ (by omega) (by omega)).mono ?_; rintro e w1 ⟨rfl, rfl⟩)
      exact ⟨⟨f', _, rfl, H5, H6, H4⟩, H7.out⟩
    · obtain ⟨N, hN⟩ : ∃ N : Nat, min (s.size : Int) 200 = N := ⟨(min (s.size : Int) 200).toNat, by omega⟩
      have hN1 : N ≤ s.size := by omega
      have HF := Lib.hid (show s.extract 0 N = str a.txt by
        apply str_ext
        have h3 := H3.out
        rw [growTo_done _ _ _ _ (by simpa using hg)] at h3
        rw [str_data, HX.out, ← h3, Lib.extract_data, List.drop_zero, Nat.sub_zero]
        by_cases h : s.size ≤ 200
        · rw [List.take_of_length_le (by simp; omega), List.take_of_length_le (by simp; omega)]
        · rw [show N = 200 by omega])
      by_cases g1 : 0 < s.size
      · have g2 : ¬ ((s.size : Int) < (m : Int)) := by omega
        clear hg
        go_wp2_with (go_at_call 29; refine (mod_any a.n 200 _ (by omega) (by omega)).mono ?_; rintro e w1 ⟨rfl, rfl⟩)
        go_ret
        exact ⟨congrArg (fun x => Ending.returned (Value.string x)) HF.out, rfl⟩
      · have g2 : ¬ ((0 : Int) < (s.size : Int)) := by omega
        clear hg
        go_wp2_with fail
        go_ret
        exact ⟨congrArg (fun x => Ending.returned (Value.string x)) HF.out, rfl⟩

/-- The numbers that survive gives. -/
def surv (n : Int) : List Int := [n, wrap64 (n.tdiv 2), wrap64 (n.tdiv 3), wrap64 (n.tdiv 5), wrap64 (n.tdiv 7)].take (n % 6).toNat

theorem reads_take (w : World) (t : TypeId) (cs : List Value) (m c : Nat) (h : m ≤ cs.length) : Reads (w.alloc (.cells cs.toArray t)) 1 (.slice (some ⟨w.heap.size, 0, none⟩) m c) m (cs.take m) := by
  refine ⟨_, _, rfl, by rw [List.length_take]; omega, fun _ => ⟨_, rfl, fun j u hu => ?_⟩⟩
  rw [Addr.add_lit, Nat.zero_add, cell_of_row _ _ j cs.toArray t (0, 0) (heap_alloc_new w _)]
  rw [List.getElem?_take] at hu
  split at hu
  · simpa using hu
  · cases hu

set_option maxRecDepth 100000 in
set_option maxHeartbeats 400000 in
theorem survive_any (w : World) (n : Int) : Calls Try.prog 32 #[.int .i64 n] w fun e w' => ∃ v, e = .returned v ∧ Below w.heap.size w w' ∧ Reads w' 1 v (surv n).length ((surv n).map (.int .i64)) := by
  obtain ⟨m, hm⟩ : ∃ m : Nat, n % 6 = (m : Int) := ⟨(n % 6).toNat, by omega⟩
  have hm2 : m < 6 := by omega
  have q1 : (m : Int) ≤ 5 := by omega
  have HR := Lib.hid (reads_take w 3 [.int .i64 n, .int .i64 (wrap64 (n.tdiv 2)), .int .i64 (wrap64 (n.tdiv 3)), .int .i64 (wrap64 (n.tdiv 5)), .int .i64 (wrap64 (n.tdiv 7))] m 5 (by simp; omega))
  have HL := Lib.hid (show (surv n).length = m by unfold surv; rw [hm, List.length_take]; simp; omega)
  have HM := Lib.hid (show (surv n).map (.int .i64) = ([.int .i64 n, .int .i64 (wrap64 (n.tdiv 2)), .int .i64 (wrap64 (n.tdiv 3)), .int .i64 (wrap64 (n.tdiv 5)), .int .i64 (wrap64 (n.tdiv 7))] : List Value).take m by unfold surv; rw [hm, List.map_take]; rfl)
  go_enter Try.func32, Try.ntmps32
  go_wp2_with (go_at_call 29; refine (mod_any n 6 _ (by omega) (by omega)).mono ?_; rintro e w1 ⟨rfl, rfl⟩)
  go_ret
  refine ⟨_, rfl, (Below.refl _ _).alloc (Nat.le_refl _) _, ?_⟩
  rw [HL.out, HM.out]
  exact HR.out
end Go.Proofs.Ytnfmcmjfpbmloaa
