/-
  Append.
-/
import Derived.Test.YtnfmcmjfpbmloaaJrF
import Derived.Deep.QuietTactic
import Derived.BigQuiet
namespace Go.Proofs.Ytnfmcmjfpbmloaa
open Go.RowKit

section
variable {w0 w : World} {L : List HP} {g jb : Nat} {σ : DS} {m b e : Int} {s : ByteArray}

set_option maxRecDepth 100000 in
set_option maxHeartbeats 2000000 in
theorem append_nil (w : World) (s : ByteArray) : Calls Try.prog 43 #[.pointer none, .string s] w fun r w' => r = .returned (.int .i64 1) ∧ Below w.heap.size w w' := by
  have c0 : ((w.alloc (.cells #[.pointer none] 65)).alloc (.cells #[.string s] 9)).cell? ⟨w.heap.size, 0, none⟩ = some (.pointer none) := (at_alloc (at_alloc (At.start w) 65 #[.pointer none]) 9 #[.string s]).cell 1 rfl 0 _ rfl
  go_enter Try.func43, Try.ntmps43
  go_wp2
  go_ret
  exact ⟨rfl, ((Below.refl _ _).alloc (Nat.le_refl _) _).alloc (by simp) _⟩

set_option maxRecDepth 100000 in
set_option maxHeartbeats 2000000 in
theorem append_zero (h : At w0 w (bl jb 82 #[.pointer none, .int .i64 0, .int .i64 0, .int .i64 0, .bool false] :: L)) (s : ByteArray) : Calls Try.prog 43 #[.pointer (some ⟨jb, 0, none⟩), .string s] w fun r w' => r = .returned (.int .i64 1) ∧ At w0 w' (bl jb 82 #[.pointer none, .int .i64 0, .int .i64 0, .int .i64 0, .bool false] :: L) := by
  have h1 := at_alloc (at_alloc h 65 #[.pointer (some ⟨jb, 0, none⟩)]) 9 #[.string s]
  have c0 := h1.cell 1 rfl 0 _ rfl
  have c1 := h1.cell 2 rfl 0 _ rfl
  have H1 := Lib.hid h1
  clear h h1
  go_enter Try.func43, Try.ntmps43
  go_wp2
  go_ret
  exact ⟨rfl, H1.out.tail.tail⟩

set_option maxRecDepth 100000 in
set_option maxHeartbeats 2000000 in
theorem append_broken (h : At w0 w (jn jb g m b e true :: L)) (s : ByteArray) : Calls Try.prog 43 #[.pointer (some ⟨jb, 0, none⟩), .string s] w fun r w' => r = .returned (.int .i64 70) ∧ At w0 w' (jn jb g m b e true :: L) := by
  have h1 := at_alloc (at_alloc h 65 #[.pointer (some ⟨jb, 0, none⟩)]) 9 #[.string s]
  have c0 := h1.cell 1 rfl 0 _ rfl
  have c1 := h1.cell 2 rfl 0 _ rfl
  have c2 := h1.cell 2 rfl 4 _ rfl
  have H1 := Lib.hid h1
  clear h h1
  go_enter Try.func43, Try.ntmps43
  go_wp2
  go_ret
  exact ⟨rfl, H1.out.tail.tail⟩

set_option maxRecDepth 100000 in
set_option maxHeartbeats 2000000 in
theorem append_many (h : At w0 w (jn jb g m b e false :: L)) (s : ByteArray) (hb0 : 0 ≤ b) (hb1 : b ≤ 100000000) (hs : s.size ≤ 281474976710656) (hm : 16777216 < b + s.size + 16 + 256) :
    Calls Try.prog 43 #[.pointer (some ⟨jb, 0, none⟩), .string s] w fun r w' => r = .returned (.int .i64 2) ∧ At w0 w' (jn jb g m b e false :: L) := by
  have h1 := at_alloc (at_alloc h 65 #[.pointer (some ⟨jb, 0, none⟩)]) 9 #[.string s]
  have c0 := h1.cell 1 rfl 0 _ rfl
  have c1 := h1.cell 2 rfl 0 _ rfl
  have c2 := h1.cell 2 rfl 4 _ rfl
  have c3 := h1.cell 2 rfl 2 _ rfl
  have c4 := h1.cell 0 rfl 0 _ rfl
  have H1 := Lib.hid h1
  clear h h1
  go_enter Try.func43, Try.ntmps43
  go_wp2_with fail
  go_quiet (fail)
  go_wp2_with fail
  go_ret
  exact ⟨rfl, (H1.out.drewN _).tail.tail⟩

/-- What Append leaves where it carries out its steps. -/
def AppPost (w0 : World) (L : List HP) (jb g : Nat) (m b e k : Int) (τ : DS × Int) (r : Ending) (w' : World) : Prop :=
  r = .returned (.int .i64 τ.2) ∧ At w0 w' ((if τ.2 = 0 then jn jb g (m + 1) (b + (k + 16)) (e + 4 + k) false else jn jb g m b e true) :: dk g τ.1 :: L)

set_option maxRecDepth 100000 in
set_option maxHeartbeats 4000000 in
theorem append_go (h : At w0 w (jn jb g m b e false :: dk g σ :: L)) (s : ByteArray) (hn : σ.n < 50000) (hm0 : 0 ≤ m) (hm1 : m ≤ 100000000) (hb0 : 0 ≤ b) (hb1 : b ≤ 100000000) (he0 : 64 ≤ e) (he1 : e ≤ 50000000) (hm : b + s.size + 16 + 256 ≤ 16777216) (τd : DS) (τc : Int) (hτ : σ.two e (be 4 s.size ++ s.data.toList) 0 (be 8 (e + 4 + s.size - 64).toNat) = (τd, τc)) :
    Calls Try.prog 43 #[.pointer (some ⟨jb, 0, none⟩), .string s] w (AppPost w0 L jb g m b e s.size (τd, τc)) := by
  have HT := Lib.hid hτ
  clear hτ
  have hmf : ∀ (fn : Fn) (first cap : Array Value) (w : World), (Instr.makeFunc fn first cap).run Try.prog w = .ok (.func fn first cap) w := fun _ _ _ _ => rfl
  have hs : s.size ≤ 16777216 := by omega
  have h1 := at_alloc (at_alloc h 65 #[.pointer (some ⟨jb, 0, none⟩)]) 9 #[.string s]
  rw [World.size_alloc] at h1
  obtain ⟨xj, hxj⟩ : ∃ xj, w.heap.size = xj := ⟨_, rfl⟩
  rw [hxj] at h1
  have c0 := h1.cell 1 rfl 0 _ rfl
  have c1 := h1.cell 2 rfl 0 _ rfl
  have c2 := h1.cell 2 rfl 4 _ rfl
  have c3 := h1.cell 2 rfl 2 _ rfl
  have c4 := h1.cell 0 rfl 0 _ rfl
  have c5 := h1.cell 2 rfl 3 _ rfl
  have H1 := Lib.hid h1
  clear h h1
  go_enter Try.func43, Try.ntmps43
  go_wp2_with fail
  go_quiet (fail)
  go_wp2_with fail
  have H2 := Lib.hid (H1.out.drewN nq).drew
  have H2b := Lib.hid (H1.out.drewN nq)
  have hsz5 : (((w.alloc (.cells #[.pointer (some ⟨jb, 0, none⟩)] 65)).alloc (.cells #[.string s] 9)).drewN nq).heap.size = xj + 1 + 1 := by rw [← hxj]; simp [World.drewN]
  have HZ := Lib.hid hsz5
  clear H1 c0 c1 c2 c3 c4 c5 hsz5
  generalize ((w.alloc (.cells #[.pointer (some ⟨jb, 0, none⟩)] 65)).alloc (.cells #[.string s] 9)).drewN nq = w5 at *
  obtain ⟨nx, hnx⟩ : ∃ nx : Int, e + 4 + (s.size : Int) = nx := ⟨_, rfl⟩
  have q1 : IntKind.i64.wrap (e + 4) = e + 4 := IntWalk.i64_in _ (by omega)
  have q2 : IntKind.i64.wrap (e + 4 + (s.size : Int)) = nx := by rw [IntWalk.i64_in _ (by omega), hnx]
  have HNX := Lib.hid hnx
  have hnx0 : 64 ≤ nx := by omega
  have hnx1 : nx ≤ 100000000 := by omega
  clear hnx
  go_region_held3 (fun w' => w'.cell? ⟨xj, 0, none⟩ = some (.pointer (some ⟨jb, 0, none⟩)) ∧ w'.cell? ⟨jb, 3, none⟩ = some (.int .i64 e) ∧ w'.cell? ⟨xj + 1, 0, none⟩ = some (.string s))
    (first
      | exact ⟨H2.out.cell 1 rfl 0 _ rfl, H2.out.cell 2 rfl 3 _ rfl, H2.out.cell 0 rfl 0 _ rfl⟩
      | exact ⟨(H2.out.alloc _).cell 1 rfl 0 _ rfl, (H2.out.alloc _).cell 2 rfl 3 _ rfl, (H2.out.alloc _).cell 0 rfl 0 _ rfl⟩
      | exact ⟨(at_set (at_alloc H2.out 3 #[.int .i64 0]) 0 rfl 0 _ _ rfl).cell 2 rfl 0 _ rfl, (at_set (at_alloc H2.out 3 #[.int .i64 0]) 0 rfl 0 _ _ rfl).cell 3 rfl 3 _ rfl, (at_set (at_alloc H2.out 3 #[.int .i64 0]) 0 rfl 0 _ _ rfl).cell 1 rfl 0 _ rfl⟩)
      (fail)
  have h3 := (at_alloc H2b.out 3 #[.int .i64 nx]).drew
  rw [HZ.out] at h3 ⊢
  have HSA : Hid ((w5.alloc (.cells #[.int .i64 nx] 3)).drew.heap.size = xj + 1 + 1 + 1) := by
    show (w5.alloc _).heap.size = _
    rw [World.size_alloc, HZ.out]
  generalize (w5.alloc (.cells #[.int .i64 nx] 3)).drew = w6 at *
  have c0 := h3.cell 2 rfl 0 _ rfl
  have H3 := Lib.hid ((at_alloc h3 46 #[.func (.func 63) #[] #[.pointer (some ⟨xj, 0, none⟩), .pointer (some ⟨xj + 1, 0, none⟩)], .func (.func 65) #[] #[.pointer (some ⟨xj, 0, none⟩), .pointer (some ⟨xj + 1 + 1, 0, none⟩)]]).perm (.cons _ ((List.reverse_perm [bl xj 65 #[.pointer (some ⟨jb, 0, none⟩)], bl (xj + 1) 9 #[.string s], bl (xj + 1 + 1) 3 #[.int .i64 nx]]).append_right (jn jb g m b e false :: dk g σ :: L))))
  clear h3 H2 H2b q1 q2
  go_wp2_with fail
  refine (steps_any hs hnx0 hnx1 hn H3.out).mono ?_
  rintro r w7 ⟨rfl, h7⟩
  rw [show σ.two e (be 4 s.size ++ s.data.toList) 0 (be 8 (nx - 64).toNat) = (τd, τc) by rw [← HNX.out]; exact HT.out] at h7 ⊢
  dsimp only at h7 ⊢
  clear H3 c0
  by_cases hz : τc = 0
  · subst hz
    have h7' : At w0 w7 (bl w6.heap.size 46 #[.func (.func 63) #[] #[.pointer (some ⟨xj, 0, none⟩), .pointer (some ⟨xj + 1, 0, none⟩)], .func (.func 65) #[] #[.pointer (some ⟨xj, 0, none⟩), .pointer (some ⟨xj + 1 + 1, 0, none⟩)]] ::
      bl xj 65 #[.pointer (some ⟨jb, 0, none⟩)] :: bl (xj + 1) 9 #[.string s] :: bl (xj + 1 + 1) 3 #[.int .i64 nx] :: jn jb g m b e false :: dk g τd :: L) := h7
    have H7 := Lib.hid h7'.tail
    clear h7 h7'
    have c0 := H7.out.cell 0 rfl 0 _ rfl
    have c1 := H7.out.cell 3 rfl 1 _ rfl
    have f1 : w7.frozen? ⟨jb, 1, none⟩ = false := frozen_of_row w7 _ _ _ _ (H7.out.block 3 rfl)
    have H8 : Hid (At w0 (w7.setCell ⟨jb, 1, none⟩ (.int .i64 (m + 1))) (bl xj 65 #[.pointer (some ⟨jb, 0, none⟩)] :: bl (xj + 1) 9 #[.string s] :: bl (xj + 1 + 1) 3 #[.int .i64 nx] :: jn jb g (m + 1) b e false :: dk g τd :: L)) := at_set H7.out 3 rfl 1 (.int .i64 (m + 1)) _ rfl
    go_wp2_with fail
    generalize w7.setCell ⟨jb, 1, none⟩ (.int .i64 (m + 1)) = w8 at *
    clear c0 c1 f1 H7
    have c0 := H8.out.cell 0 rfl 0 _ rfl
    have c1 := H8.out.cell 3 rfl 2 _ rfl
    have c2 := H8.out.cell 1 rfl 0 _ rfl
    have f1 : w8.frozen? ⟨jb, 2, none⟩ = false := frozen_of_row w8 _ _ _ _ (H8.out.block 3 rfl)
    have q1 : IntKind.i64.wrap ((s.size : Int) + 16) = (s.size : Int) + 16 := IntWalk.i64_in _ (by omega)
    have q2 : IntKind.i64.wrap (b + ((s.size : Int) + 16)) = b + ((s.size : Int) + 16) := IntWalk.i64_in _ (by omega)
    go_region
    all_goals
      have H9 : Hid (At w0 (w8.setCell ⟨jb, 2, none⟩ (.int .i64 (b + ((s.size : Int) + 16)))).drew (bl xj 65 #[.pointer (some ⟨jb, 0, none⟩)] :: bl (xj + 1) 9 #[.string s] :: bl (xj + 1 + 1) 3 #[.int .i64 nx] :: jn jb g (m + 1) (b + ((s.size : Int) + 16)) e false :: dk g τd :: L)) := (at_set H8.out 3 rfl 2 (.int .i64 (b + ((s.size : Int) + 16))) _ rfl).drew
      clear c0 c1 c2 f1 q1 q2
      generalize (w8.setCell ⟨jb, 2, none⟩ (.int .i64 (b + ((s.size : Int) + 16)))).drew = w9 at *
      have c0 := H9.out.cell 0 rfl 0 _ rfl
      have c1 := H9.out.cell 3 rfl 3 _ rfl
      have c2 := H9.out.cell 2 rfl 0 _ rfl
      have f1 : w9.frozen? ⟨jb, 3, none⟩ = false := frozen_of_row w9 _ _ _ _ (H9.out.block 3 rfl)
      go_wp2_with fail
      go_ret
      refine ⟨rfl, ?_⟩
      rw [if_pos rfl, HNX.out]
      exact (at_set H9.out 3 rfl 3 (.int .i64 nx) _ rfl).tail.tail.tail
  · have H7 := Lib.hid h7.tail.tail.tail.tail
    clear h7
    go_wp2_with fail
    go_ret
    refine ⟨rfl, ?_⟩
    rw [if_neg hz]
    have := H7.out
    rw [show (τc != 0) = true by simp [hz]] at this
    exact this
end
end Go.Proofs.Ytnfmcmjfpbmloaa
