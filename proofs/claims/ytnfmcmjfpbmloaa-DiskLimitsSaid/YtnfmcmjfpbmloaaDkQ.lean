/-
  The contract of do, but at a crash.
-/
import Derived.Test.YtnfmcmjfpbmloaaDkP
import Derived.Deep.RegionHeld3
namespace Go.Proofs.Ytnfmcmjfpbmloaa
open Go.RowKit

/-- A desk: its block, its disk, its model. -/
def deskL (gx gd gm : Nat) (σ : DS) (L : List HP) : List HP := bl gx 30 #[.pointer (some ⟨gd, 0, none⟩), .pointer (some ⟨gm, 0, none⟩)] :: dk gd σ :: rf gm σ :: L

theorem Heaps.tail {w : World} {P : HP} {L : List HP} {S : Nat → Prop} (h : Heaps w (P :: L) S) : ∃ S', Heaps w L S' ∧ ∀ k, S' k → S k := by
  obtain ⟨S1, S2, _, h2, _, h4⟩ := h
  exact ⟨S2, h2, fun k hk => (h4 k).2 (.inr hk)⟩
theorem At.tail {w0 w : World} {P : HP} {L : List HP} (h : At w0 w (P :: L)) : At w0 w L := by
  obtain ⟨S, h1, h2, h3⟩ := h
  obtain ⟨S', k1, k2⟩ := h1.tail
  exact ⟨S', k1, fun k hk => h2 k (k2 k hk), h3⟩
theorem Heaps.perm {w : World} {L L' : List HP} (hp : L.Perm L') : ∀ {S : Nat → Prop}, Heaps w L S → Heaps w L' S := by
  induction hp with
  | nil => intro S h; exact h
  | cons P _ ih =>
    rintro S ⟨S1, S2, h1, h2, h3, h4⟩
    exact ⟨S1, S2, h1, ih h2, h3, h4⟩
  | swap P Q L =>
    rintro S ⟨S1, S2, h1, ⟨T1, T2, k1, k2, k3, k4⟩, h3, h4⟩
    refine ⟨T1, fun k => S1 k ∨ T2 k, k1, ⟨S1, T2, h1, k2, fun k hk hk2 => h3 k hk ((k4 k).2 (.inr hk2)), fun _ => Iff.rfl⟩, ?_, ?_⟩
    · rintro k hk (hk2 | hk2)
      · exact h3 k hk2 ((k4 k).2 (.inl hk))
      · exact k3 k hk hk2
    · intro k
      rw [h4 k, k4 k]
      constructor
      · rintro (h | h | h)
        · exact .inr (.inl h)
        · exact .inl h
        · exact .inr (.inr h)
      · rintro (h | h | h)
        · exact .inr (.inl h)
        · exact .inl h
        · exact .inr (.inr h)
  | trans _ _ ih1 ih2 => intro S h; exact ih2 (ih1 h)
theorem At.perm {w0 w : World} {L L' : List HP} (h : At w0 w L) (hp : L.Perm L') : At w0 w L' := by
  obtain ⟨S, h1, h2, h3⟩ := h
  exact ⟨S, h1.perm hp, h2, h3⟩

theorem at_set {w0 w : World} {L : List HP} {g : Nat} {t : TypeId} {cs : Array Value} (h : At w0 w L) (i : Nat) (hi : L[i]? = some (bl g t cs)) (j : Nat) (u : Value) (cs' : Array Value) (hc : cs.setIfInBounds j u = cs') : At w0 (w.setCell ⟨g, j, none⟩ u) (L.set i (bl g t cs')) := by
  refine h.turn i hi (P' := bl g t cs') fun S hS => ⟨S, ⟨?_, hS.2⟩, (turns_one w g j u).mono fun k _ hk => (hS.2 k).2 hk, fun k hk => .inl hk⟩
  rw [heap_setCell_same w g j _ _ u hS.1, hc]

theorem perm6 {α : Type} (a b c d e f : α) (L : List α) : (a :: b :: c :: d :: e :: f :: L).Perm (c :: e :: f :: d :: b :: a :: L) := by
  refine (List.perm_middle (l₁ := [a, b]) (a := c) (l₂ := d :: e :: f :: L)).trans (.cons c ?_)
  refine (List.perm_middle (l₁ := [a, b, d]) (a := e) (l₂ := f :: L)).trans (.cons e ?_)
  refine (List.perm_middle (l₁ := [a, b, d]) (a := f) (l₂ := L)).trans (.cons f ?_)
  refine (List.perm_middle (l₁ := [a, b]) (a := d) (l₂ := L)).trans (.cons d ?_)
  exact (List.perm_middle (l₁ := [a]) (a := b) (l₂ := L))

/-- What a call of do reads: the desk's pointers, and the act in its box. -/
theorem deskCells {w0 W : World} {ga gx gd gm : Nat} {a : Act} {L : List HP} (h : At w0 W (bl ga 33 #[.int .i64 a.kind, .int .i64 a.off, .int .i64 a.n, .string a.text] :: bl gx 30 #[.pointer (some ⟨gd, 0, none⟩), .pointer (some ⟨gm, 0, none⟩)] :: L)) :
    W.cell? ⟨gx, 0, none⟩ = some (.pointer (some ⟨gd, 0, none⟩)) ∧ W.cell? ⟨gx, 1, none⟩ = some (.pointer (some ⟨gm, 0, none⟩)) ∧
    W.cell? ⟨ga, 0, none⟩ = some (.int .i64 a.kind) ∧ W.cell? ⟨ga, 1, none⟩ = some (.int .i64 a.off) ∧ W.cell? ⟨ga, 2, none⟩ = some (.int .i64 a.n) ∧ W.cell? ⟨ga, 3, none⟩ = some (.string a.text) :=
  ⟨h.cell 1 rfl 0 _ rfl, h.cell 1 rfl 1 _ rfl, h.cell 0 rfl 0 _ rfl, h.cell 0 rfl 1 _ rfl, h.cell 0 rfl 2 _ rfl, h.cell 0 rfl 3 _ rfl⟩

section
variable {w0 w : World} {L : List HP} {gx gd gm : Nat} {σ : DS}

set_option maxRecDepth 100000 in
set_option maxHeartbeats 400000 in
theorem do_sync (h : At w0 w (deskL gx gd gm σ L)) (hn : σ.n < 100000) (a : Act) (hk : a.kind % 8 = 4) :
    Calls Try.prog 23 #[.pointer (some ⟨gx, 0, none⟩), .agg #[.int .i64 a.kind, .int .i64 a.off, .int .i64 a.n, .string a.text]] w fun e w' => e = .returned (.bool true) ∧ At w0 w' (deskL gx gd gm σ.sync L) := by
  have h1 := at_alloc h 33 #[.int .i64 a.kind, .int .i64 a.off, .int .i64 a.n, .string a.text]
  have H1 := Lib.hid h1
  have c0 := h1.cell 1 rfl 0 _ rfl
  have c1 := h1.cell 1 rfl 1 _ rfl
  clear h h1
  go_enter Try.func23, Try.ntmps23
  go_wp2_with (go_at_call 29; refine (mod_any a.kind 8 _ (by omega) (by omega)).mono ?_; rintro e w1 ⟨rfl, rfl⟩)
  generalize (w.alloc (.cells #[.int .i64 a.kind, .int .i64 a.off, .int .i64 a.n, .string a.text] 33)) = w1 at *
  go_region_held3 (fun w' => w'.cell? ⟨gx, 0, none⟩ = some (.pointer (some ⟨gd, 0, none⟩)) ∧ w'.cell? ⟨gx, 1, none⟩ = some (.pointer (some ⟨gm, 0, none⟩))) (first | exact ⟨c0, c1⟩ | exact ⟨c20, c21⟩ | exact ⟨c30, c31⟩)
    (first
      | (go_at_call 35; refine (at_sync (H1.out.drew) 2 rfl hn).mono ?_; rintro e w2 ⟨rfl, h2⟩; have c20 := h2.cell 1 rfl 0 _ rfl; have c21 := h2.cell 1 rfl 1 _ rfl; have H2 := Lib.hid h2; clear h2)
      | (go_at_call 49; refine (at_rsync H2.out 3 rfl hn).mono ?_; rintro e w3 ⟨rfl, h3⟩; have c30 := h3.cell 1 rfl 0 _ rfl; have c31 := h3.cell 1 rfl 1 _ rfl; have H3 := Lib.hid h3; clear h3))
  go_wp2
  go_ret
  exact ⟨rfl, (show At w0 w3 (bl _ _ _ :: deskL gx gd gm σ.sync L) from H3.out).tail⟩

set_option maxRecDepth 100000 in
set_option maxHeartbeats 400000 in
theorem do_read (h : At w0 w (deskL gx gd gm σ L)) (a : Act) (hk : a.kind % 8 = 5) :
    Calls Try.prog 23 #[.pointer (some ⟨gx, 0, none⟩), .agg #[.int .i64 a.kind, .int .i64 a.off, .int .i64 a.n, .string a.text]] w fun e w' => e = .returned (.bool true) ∧ At w0 w' (deskL gx gd gm σ L) := by
  have h1 := at_alloc h 33 #[.int .i64 a.kind, .int .i64 a.off, .int .i64 a.n, .string a.text]
  have H1 := Lib.hid h1
  have c0 := h1.cell 1 rfl 0 _ rfl
  have c1 := h1.cell 1 rfl 1 _ rfl
  have d0 := h1.cell 0 rfl 0 _ rfl
  have d1 := h1.cell 0 rfl 1 _ rfl
  have d2 := h1.cell 0 rfl 2 _ rfl
  have d3 := h1.cell 0 rfl 3 _ rfl
  clear h h1
  go_enter Try.func23, Try.ntmps23
  go_wp2_with (go_at_call 29; refine (mod_any a.kind 8 _ (by omega) (by omega)).mono ?_; rintro e w1 ⟨rfl, rfl⟩)
  obtain ⟨ga, hga⟩ : ∃ ga, w.heap.size = ga := ⟨_, rfl⟩
  rw [hga] at d0 d1 d2 d3 H1
  generalize (w.alloc (.cells #[.int .i64 a.kind, .int .i64 a.off, .int .i64 a.n, .string a.text] 33)) = w1 at *
  rw [hga]
  clear hga
  go_region_held3 (fun w' => w'.cell? ⟨gx, 0, none⟩ = some (.pointer (some ⟨gd, 0, none⟩)) ∧ w'.cell? ⟨gx, 1, none⟩ = some (.pointer (some ⟨gm, 0, none⟩)) ∧ w'.cell? ⟨ga, 0, none⟩ = some (.int .i64 a.kind) ∧ w'.cell? ⟨ga, 1, none⟩ = some (.int .i64 a.off) ∧ w'.cell? ⟨ga, 2, none⟩ = some (.int .i64 a.n) ∧ w'.cell? ⟨ga, 3, none⟩ = some (.string a.text))
    (first | exact ⟨c0, c1, d0, d1, d2, d3⟩ | exact deskCells H2.out | exact deskCells H3.out | exact deskCells H4.out | exact deskCells H5.out)
    (first
      | (go_at_call 36; refine (at_read H2.out 2 rfl _ _).mono ?_; rintro e w3 ⟨rfl, h3⟩; have H3 := Lib.hid h3; clear h3)
      | (go_at_call 38; refine (at_rread H4.out 3 rfl _ _).mono ?_; rintro e w5 ⟨rfl, h5⟩; have H5 := Lib.hid h5; clear h5)
      | (go_at_call 50; refine (where_any _ a).mono ?_; rintro e w4 ⟨rfl, rfl⟩; have H4 := Lib.hid (H3.out.alloc (.cells #[.int .i64 a.kind, .int .i64 a.off, .int .i64 a.n, .string a.text] 33)))
      | (go_at_call 50; refine (where_any _ a).mono ?_; rintro e w2 ⟨rfl, rfl⟩; have H2 := Lib.hid (H1.out.drew.alloc (.cells #[.int .i64 a.kind, .int .i64 a.off, .int .i64 a.n, .string a.text] 33))))
  go_wp2
  go_ret
  exact ⟨rfl, (show At w0 w5 (bl _ _ _ :: deskL gx gd gm σ L) from H5.out).tail⟩

set_option maxRecDepth 100000 in
set_option maxHeartbeats 400000 in
theorem do_write (h : At w0 w (deskL gx gd gm σ L)) (hn : σ.n < 100000) (a : Act) (hk : a.kind % 8 < 4) :
    Calls Try.prog 23 #[.pointer (some ⟨gx, 0, none⟩), .agg #[.int .i64 a.kind, .int .i64 a.off, .int .i64 a.n, .string a.text]] w fun e w' => e = .returned (.bool true) ∧ At w0 w' (deskL gx gd gm (σ.write a.spot a.txt) L) := by
  have h1 := at_alloc h 33 #[.int .i64 a.kind, .int .i64 a.off, .int .i64 a.n, .string a.text]
  have H1 := Lib.hid h1
  have c0 := h1.cell 1 rfl 0 _ rfl
  have c1 := h1.cell 1 rfl 1 _ rfl
  have d0 := h1.cell 0 rfl 0 _ rfl
  have d1 := h1.cell 0 rfl 1 _ rfl
  have d2 := h1.cell 0 rfl 2 _ rfl
  have d3 := h1.cell 0 rfl 3 _ rfl
  clear h h1
  have htx := a.txt_le
  have hts : (str a.txt).size ≤ 1000000000 := by rw [str_size]; omega
  obtain ⟨kd, hkd⟩ : ∃ kd : Int, a.kind % 8 = kd := ⟨_, rfl⟩
  have k0 : 0 ≤ kd := by omega
  have k4 : kd < 4 := by omega
  have e4 : (kd == 4) = false := by simp; omega
  have e5 : (kd == 5) = false := by simp; omega
  have e6 : (kd == 6) = false := by simp; omega
  have e7 : (kd == 7) = false := by simp; omega
  go_enter Try.func23, Try.ntmps23
  go_wp2_with (go_at_call 29; refine (mod_any a.kind 8 _ (by omega) (by omega)).mono ?_; rintro e w1 ⟨rfl, rfl⟩)
  obtain ⟨ga, hga⟩ : ∃ ga, w.heap.size = ga := ⟨_, rfl⟩
  rw [hga] at d0 d1 d2 d3 H1
  generalize (w.alloc (.cells #[.int .i64 a.kind, .int .i64 a.off, .int .i64 a.n, .string a.text] 33)) = w1 at *
  rw [hga]
  clear hga
  go_region_held3 (fun w' => w'.cell? ⟨gx, 0, none⟩ = some (.pointer (some ⟨gd, 0, none⟩)) ∧ w'.cell? ⟨gx, 1, none⟩ = some (.pointer (some ⟨gm, 0, none⟩)) ∧ w'.cell? ⟨ga, 0, none⟩ = some (.int .i64 a.kind) ∧ w'.cell? ⟨ga, 1, none⟩ = some (.int .i64 a.off) ∧ w'.cell? ⟨ga, 2, none⟩ = some (.int .i64 a.n) ∧ w'.cell? ⟨ga, 3, none⟩ = some (.string a.text))
    (first | exact ⟨c0, c1, d0, d1, d2, d3⟩ | exact deskCells H2.out | exact deskCells H3.out | exact deskCells H4.out | exact deskCells H5.out | exact deskCells H6.out | exact deskCells H7.out)
    (first
      | (go_at_call 34; refine (at_write H3.out 2 rfl hn _ _).mono ?_; rintro e w4 ⟨rfl, h4⟩; have H4 := Lib.hid h4; clear h4)
      | (go_at_call 39; refine (at_rwrite H6.out 3 rfl hn _ _ hts).mono ?_; rintro e w7 ⟨rfl, h7⟩; have H7 := Lib.hid h7; clear h7)
      | (go_at_call 50; refine (where_any _ a).mono ?_; rintro e w5 ⟨rfl, rfl⟩; have H5 := Lib.hid (H4.out.alloc (.cells #[.int .i64 a.kind, .int .i64 a.off, .int .i64 a.n, .string a.text] 33)))
      | (go_at_call 50; refine (where_any _ a).mono ?_; rintro e w2 ⟨rfl, rfl⟩; have H2 := Lib.hid (H1.out.drew.alloc (.cells #[.int .i64 a.kind, .int .i64 a.off, .int .i64 a.n, .string a.text] 33)))
      | (go_at_call 52; refine (long_any _ a).mono ?_; rintro e w6 ⟨rfl, rfl⟩; have H6 := Lib.hid (H5.out.alloc (.cells #[.int .i64 a.kind, .int .i64 a.off, .int .i64 a.n, .string a.text] 33)))
      | (go_at_call 52; refine (long_any _ a).mono ?_; rintro e w3 ⟨rfl, rfl⟩; have H3 := Lib.hid (H2.out.alloc (.cells #[.int .i64 a.kind, .int .i64 a.off, .int .i64 a.n, .string a.text] 33))))
  go_wp2
  go_ret
  exact ⟨rfl, (show At w0 w7 (bl _ _ _ :: deskL gx gd gm (σ.write a.spot a.txt) L) from H7.out).tail⟩

set_option maxRecDepth 100000 in
set_option maxHeartbeats 400000 in
theorem do_fail (h : At w0 w (deskL gx gd gm σ L)) (a : Act) (hk : a.kind % 8 = 6) :
    Calls Try.prog 23 #[.pointer (some ⟨gx, 0, none⟩), .agg #[.int .i64 a.kind, .int .i64 a.off, .int .i64 a.n, .string a.text]] w fun e w' => e = .returned (.bool true) ∧ At w0 w' (deskL gx gd gm (σ.fail (a.n % 9 - 1)) L) := by
  have h1 := at_alloc h 33 #[.int .i64 a.kind, .int .i64 a.off, .int .i64 a.n, .string a.text]
  have H1 := Lib.hid h1
  have c0 := h1.cell 1 rfl 0 _ rfl
  have c1 := h1.cell 1 rfl 1 _ rfl
  have d0 := h1.cell 0 rfl 0 _ rfl
  have d1 := h1.cell 0 rfl 1 _ rfl
  have d2 := h1.cell 0 rfl 2 _ rfl
  have d3 := h1.cell 0 rfl 3 _ rfl
  clear h h1
  have b1 : 0 ≤ a.n % 9 := by omega
  have b2 : a.n % 9 < 9 := by omega
  go_enter Try.func23, Try.ntmps23
  go_wp2_with fail
  refine (mod_any a.kind 8 _ (by omega) (by omega)).mono ?_
  rintro e w1 ⟨rfl, rfl⟩
  go_wp2_with fail
  refine (mod_any a.n 9 _ (by omega) (by omega)).mono ?_
  rintro e w1 ⟨rfl, rfl⟩
  obtain ⟨ga, hga⟩ : ∃ ga, w.heap.size = ga := ⟨_, rfl⟩
  rw [hga] at d0 d1 d2 d3 H1
  generalize (w.alloc (.cells #[.int .i64 a.kind, .int .i64 a.off, .int .i64 a.n, .string a.text] 33)) = w1 at *
  rw [hga]
  clear hga
  go_wp2_with fail
  refine (at_fail H1.out 2 rfl (a.n % 9 - 1) (by omega)).mono ?_
  rintro e w2 ⟨rfl, h2⟩
  have c21 := h2.cell 1 rfl 1 _ rfl
  have H2 := Lib.hid h2
  clear h2
  go_wp2_with fail
  refine (at_rfail H2.out 3 rfl (a.n % 9 - 1) (by omega)).mono ?_
  rintro e w3 ⟨rfl, h3⟩
  have H3 := Lib.hid h3
  clear h3
  go_wp2_with fail
  go_ret
  exact ⟨rfl, (show At w0 w3 (bl _ _ _ :: deskL gx gd gm (σ.fail (a.n % 9 - 1)) L) from H3.out).tail⟩

theorem at_survive (h : At w0 w L) (n : Int) : Calls Try.prog 32 #[.int .i64 n] w fun e w' => ∃ v, e = .returned v ∧ At w0 w' L ∧ Reads w' 1 v (surv n).length ((surv n).map (.int .i64)) := by
  refine (survive_any w n).mono ?_
  rintro e w' ⟨v, rfl, hb, hr⟩
  exact ⟨v, rfl, h.keep (Turns.below hb), hr⟩

end
end Go.Proofs.Ytnfmcmjfpbmloaa
