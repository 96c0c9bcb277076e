/-
  The contract of do at a crash.
-/
import Derived.Test.YtnfmcmjfpbmloaaDkQ
namespace Go.Proofs.Ytnfmcmjfpbmloaa
open Go.RowKit
section
variable {w0 w : World} {L : List HP} {gx gd gm : Nat} {σ : DS}
set_option maxRecDepth 100000 in
set_option maxHeartbeats 2000000 in
theorem do_crash (h : At w0 w (deskL gx gd gm σ L)) (a : Act) (hk : a.kind % 8 = 7) :
    Calls Try.prog 23 #[.pointer (some ⟨gx, 0, none⟩), .agg #[.int .i64 a.kind, .int .i64 a.off, .int .i64 a.n, .string a.text]] w fun e w' => e = .returned (.bool true) ∧ ∃ gd' gm', At w0 w' (deskL gx gd' gm' (σ.crash (surv a.n)) L) := by
  have h1 := at_alloc h 33 #[.int .i64 a.kind, .int .i64 a.off, .int .i64 a.n, .string a.text]
  have H1 := Lib.hid h1
  have c0 := h1.cell 1 rfl 0 _ rfl
  have c1 := h1.cell 1 rfl 1 _ rfl
  have d0 := h1.cell 0 rfl 0 _ rfl
  have d1 := h1.cell 0 rfl 1 _ rfl
  have d2 := h1.cell 0 rfl 2 _ rfl
  have d3 := h1.cell 0 rfl 3 _ rfl
  clear h h1
  go_enter Try.func23, Try.ntmps23
  go_wp2_with fail
  refine (mod_any a.kind 8 _ (by omega) (by omega)).mono ?_
  rintro e w1 ⟨rfl, rfl⟩
  obtain ⟨ga, hga⟩ : ∃ ga, w.heap.size = ga := ⟨_, rfl⟩
  rw [hga] at d0 d1 d2 d3 H1
  generalize (w.alloc (.cells #[.int .i64 a.kind, .int .i64 a.off, .int .i64 a.n, .string a.text] 33)) = w1 at *
  rw [hga]
  clear hga
  go_wp2_with fail
  go_region_with (first
      | (go_at_call 32; refine (at_survive H1.out.drew a.n).mono ?_; rintro e w2 ⟨v2, rfl, h2, hr2⟩; have c20 := h2.cell 1 rfl 0 _ rfl; have H2 := Lib.hid h2; have Hr2 := Lib.hid hr2; clear h2 hr2)
      | (go_at_call 30; refine (at_crash H2.out 2 rfl _ _ Hr2.out).mono ?_; rintro e w3 ⟨rfl, h3⟩; have H3 := Lib.hid h3; have c30 := h3.cell 2 rfl 0 _ rfl; have f30 := frozen_of_row w3 gx 0 _ _ (h3.block 2 rfl); clear h3))
  all_goals
    have H4 := Lib.hid (at_set H3.out 2 rfl 0 (.pointer (some ⟨w2.heap.size, 0, none⟩)) #[.pointer (some ⟨w2.heap.size, 0, none⟩), .pointer (some ⟨gm, 0, none⟩)] rfl)
    have c41 := H4.out.cell 2 rfl 1 _ rfl
    have d42 := H4.out.cell 1 rfl 2 _ rfl
    clear H1 H2 H3 Hr2 c0 c1 d0 d1 d2 d3 c20 c30 f30
    generalize (w3.setCell ⟨gx, 0, none⟩ (.pointer (some ⟨w2.heap.size, 0, none⟩))) = w4 at *
    generalize w2.heap.size = gd' at *
    go_wp2_with fail
    go_region_with (first
        | (go_at_call 32; refine (at_survive H4.out.drew a.n).mono ?_; rintro e w5 ⟨v5, rfl, h5, hr5⟩; have c51 := h5.cell 2 rfl 1 _ rfl; have H5 := Lib.hid h5; have Hr5 := Lib.hid hr5; clear h5 hr5)
        | (go_at_call 31; refine (at_rcrash H5.out 4 rfl _ _ Hr5.out).mono ?_; rintro e w6 ⟨gm', rfl, h6⟩; have H6 := Lib.hid h6; have c61 := h6.cell 3 rfl 1 _ rfl; have f61 := frozen_of_row w6 gx 1 _ _ (h6.block 3 rfl); clear h6))
    all_goals
      have H7 := Lib.hid (at_set H6.out 3 rfl 1 (.pointer (some ⟨gm', 0, none⟩)) #[.pointer (some ⟨gd', 0, none⟩), .pointer (some ⟨gm', 0, none⟩)] rfl)
      have c70 := H7.out.cell 3 rfl 0 _ rfl
      go_wp2
      go_ret
      exact ⟨rfl, gd', gm', (H7.out.perm (perm6 _ _ _ _ _ _ _)).tail.tail.tail⟩
end
end Go.Proofs.Ytnfmcmjfpbmloaa
