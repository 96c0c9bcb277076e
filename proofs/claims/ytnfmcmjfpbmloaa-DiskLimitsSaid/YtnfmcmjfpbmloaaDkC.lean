/-
  The disk of the program in memory, and the contracts of its small functions: New, Size, Calls, Fail, call, settle, put, add.
-/
import Derived.Test.YtnfmcmjfpbmloaaProg
import Derived.Test.YtnfmcmjfpbmloaaDkA
import Derived.Test.YtnfmcmjfpbmloaaDkB
import Derived.Deep.RegionLaw
namespace Go.Proofs.Ytnfmcmjfpbmloaa
open Go.RowKit

theorem u8_info : (Try.prog.info? 5).map (fun i => (i.zero, i.size, i.bytes)) = some (some (.int .u8 0), 1, 1) := by kernel_rfl
theorem u8_size : (Try.prog.info? 5).map (·.size) = some 1 := by kernel_rfl
theorem pc_info : (Try.prog.info? 90).map (fun i => (i.zero, i.size, i.bytes)) = some (some (.agg #[.int .i64 0, .slice none 0 0]), 2, 32) := by kernel_rfl

theorem own_form {w : World} {e : TypeId} {size : Nat} {v : Value} {n : Nat} {xs : List Value} (h : w.ownsRow 0 e size v n xs) (hn : 0 < n) : ∃ g cap, v = .slice (some ⟨g, 0, none⟩) n cap ∧ n ≤ cap := by
  rcases h.2 with ⟨_, h0⟩ | ⟨g, cap, cur, hv, hb, hg, hc, _⟩
  · omega
  · exact ⟨g, cap, hv, hc⟩
theorem own_slice {w : World} {e : TypeId} {size : Nat} {v : Value} {n : Nat} {xs : List Value} (h : w.ownsRow 0 e size v n xs) : ∃ A cap, v = .slice A n cap ∧ n ≤ cap := by
  rcases h.2 with ⟨rfl, rfl⟩ | ⟨g, cap, cur, rfl, hb, hg, hc, _⟩
  · exact ⟨_, _, rfl, Nat.le_refl _⟩
  · exact ⟨_, cap, rfl, hc⟩
/-- v[:0]: nothing is owned of the same row. -/
theorem own_none {w : World} {e : TypeId} {size : Nat} {A : Option Addr} {n c : Nat} {xs : List Value} (h : w.ownsRow 0 e size (.slice A n c) n xs) : w.ownsRow 0 e size (.slice A 0 c) 0 [] := by
  refine ⟨by simp, ?_⟩
  rcases h.2 with ⟨h, rfl⟩ | ⟨g, cap, cur, h, hb, hg, hc, hm, hs, _⟩
  · exact .inl ⟨h, rfl⟩
  · injection h with h1 h2 h3
    subst h1 h3
    exact .inr ⟨g, _, cur, rfl, hb, hg, Nat.zero_le _, hm, hs, by simp⟩

theorem reads_new (w : World) (t : TypeId) (cs : List Value) (n size c : Nat) (h : cs.length = n * size) : Reads (w.alloc (.cells cs.toArray t)) size (.slice (some ⟨w.heap.size, 0, none⟩) n c) n cs := by
  refine ⟨_, _, rfl, h, fun _ => ⟨_, rfl, fun j u hu => ?_⟩⟩
  rw [Addr.add_lit, Nat.zero_add, cell_of_row _ _ j cs.toArray t (0, 0) (heap_alloc_new w _)]
  simpa using hu

theorem Reads.grown {w w' : World} {size : Nat} {v : Value} {n : Nat} {xs : List Value} {row : Option Nat} (h : Reads w size v n xs) (hg : w.grownBy w' row) (hr : v.ownBlock = none ∨ v.ownBlock ≠ row) : Reads w' size v n xs := by
  obtain ⟨A, c, rfl, hl, hc⟩ := h
  refine ⟨A, c, rfl, hl, fun hn => ?_⟩
  obtain ⟨ad, rfl, hcell⟩ := hc hn
  refine ⟨ad, rfl, fun j u hu => ?_⟩
  have h1 := hcell j u hu
  have hb : (ad.add j).block = ad.block := by unfold Addr.add; split <;> rfl
  refine (World.cell?_of_block (hg.block _ (block_lt_of_cell h1) ?_)).trans h1
  rw [hb]
  rcases hr with hr | hr
  · simp [Value.ownBlock] at hr
  · exact hr

theorem Reads.turns {S : Nat → Prop} {w w' : World} {size : Nat} {v : Value} {n : Nat} {xs : List Value} (h : Reads w size v n xs) (ht : Turns S w w') (hr : ∀ k, v.ownBlock = some k → ¬ S k) : Reads w' size v n xs := by
  obtain ⟨A, c, rfl, hl, hc⟩ := h
  refine ⟨A, c, rfl, hl, fun hn => ?_⟩
  obtain ⟨ad, rfl, hcell⟩ := hc hn
  refine ⟨ad, rfl, fun j u hu => ?_⟩
  have h1 := hcell j u hu
  have hb : (ad.add j).block = ad.block := by unfold Addr.add; split <;> rfl
  exact (ht.cell (block_lt_of_cell h1) (by rw [hb]; exact hr _ rfl)).trans h1

/-! ### put -/

def PutPost (w : World) (v : Value) (n : Nat) (xs : List Value) (e : Ending) (w' : World) : Prop :=
  ∃ v', e = .returned v' ∧ w'.ownsRow 0 5 1 v' n xs ∧ w.grownBy w' v.ownBlock ∧ (v'.ownBlock = v.ownBlock ∨ v'.ownBlock = some w.heap.size)

theorem putPost_two {w w1 w2 : World} {v v1 : Value} {n : Nat} {xs : List Value} (h1 : w.grownBy w1 v.ownBlock) (h2 : v1.ownBlock = v.ownBlock ∨ v1.ownBlock = some w.heap.size) (h3 : w2.ownsRow 0 5 1 v1 n xs) (h4 : w1.grownBy w2 v1.ownBlock) : PutPost w v n xs (.returned v1) w2 := by
  refine ⟨v1, rfl, h3, ?_, h2⟩
  refine ⟨h4.os.trans h1.os, h4.tape.trans h1.tape, h4.output.trans h1.output, Nat.le_trans h1.size h4.size, fun k hk hne => ?_⟩
  refine (h4.block k (Nat.lt_of_lt_of_le hk h1.size) ?_).trans (h1.block k hk hne)
  rcases h2 with h2 | h2
  · rw [h2]; exact hne
  · rw [h2]; simp; omega

set_option maxRecDepth 100000 in
set_option maxHeartbeats 400000 in
theorem put_grow (w : World) (B : Option Addr) (cc : Nat) (vs : Value) (c s : List UInt8) (off m : Nat) (hv : w.ownsRow 0 5 1 (.slice B c.length cc) c.length (bys c)) (hs : Reads w 1 vs s.length (bys s)) (hn : vs.ownBlock = none ∨ vs.ownBlock ≠ (Value.slice B c.length cc).ownBlock) (ho : off + s.length ≤ 16777216) (hc : c.length ≤ 16777216)
    (hgr : c.length < off + s.length) (hm1 : c.length + m ≤ off + s.length) (hm2 : off + s.length ≤ c.length + m) :
    Calls Try.prog 53 #[.slice B c.length cc, .int .i64 off, vs] w (PutPost w (.slice B c.length cc) (c.length + m) (splice (bys c ++ List.replicate m (.int .u8 0)) off (bys s))) := by
  obtain ⟨i0, hi, hz0, hz1, hz2⟩ := info_parts u8_info
  have hs0 := hs
  obtain ⟨A, cp, rfl, -, -⟩ := hs
  have Hv := Lib.hid hv
  have Hs := Lib.hid hs0
  have Hn := Lib.hid hn
  clear hv hs0 hn
  go_enter Try.func53, Try.ntmps53
  go_wp2_with (first
    | (at_builtin; refine wpList_append_zeros _ rfl (.tmp 17) (.tmp 18) 56 3 rfl 5 i0 (.int .u8 0) .i64 Try.underlying56 Try.underlying3 hi hz0 hz1 hz2 rfl rfl (.slice B c.length cc) c.length (bys c) rfl Hv.out m _ rfl (by omega) (by omega) (by omega) ?_; intro v1 w1 hown1 hg1 hat1; obtain ⟨g1, c1, hv1, hg1c⟩ := own_form hown1 (by omega); subst hv1; have Hr1 := Lib.hid (Hs.out.grown hg1 Hn.out); have Hown1 := Lib.hid hown1; have Hg1 := Lib.hid hg1; have Hat1 := Lib.hid hat1; clear hown1 hg1 hat1)
    | ((with_reducible show wpList _ _ _ (Oper.mk (some 24) _ _ _ _ _ :: _) _ _); refine wpList_copy_onto _ rfl (.tmp 22) (.tmp 23) 56 56 rfl 5 Try.underlying56 u8_size (.slice (some ⟨g1, 0, none⟩) (c.length + m) c1) (c.length + m) _ Hown1.out off _ _ rfl (by intro A1 c2 e hne; cases e; rw [if_neg (by omega)]; simp [Addr.add_lit]) (.slice A s.length cp) s.length (bys s) rfl Hr1.out (bys_one s) (by omega) ?_; generalize (if c1 = off then some (⟨g1, 0, none⟩ : Addr) else some ⟨g1, off, none⟩) = D22; intro w2 hown2 hg2; have Hown2 := Lib.hid hown2; have Hg2 := Lib.hid hg2; clear hown2 hg2))
  go_ret
  exact putPost_two Hg1.out Hat1.out Hown2.out Hg2.out

set_option maxRecDepth 100000 in
set_option maxHeartbeats 400000 in
theorem put_fit (w : World) (B : Option Addr) (cc : Nat) (vs : Value) (c s : List UInt8) (off : Nat) (hv : w.ownsRow 0 5 1 (.slice B c.length cc) c.length (bys c)) (hcc : c.length ≤ cc) (hs : Reads w 1 vs s.length (bys s)) (hc : c.length ≤ 16777216)
    (hgr : off + s.length ≤ c.length) :
    Calls Try.prog 53 #[.slice B c.length cc, .int .i64 off, vs] w (PutPost w (.slice B c.length cc) c.length (splice (bys c) off (bys s))) := by
  have hs0 := hs
  obtain ⟨A, cp, rfl, -, -⟩ := hs
  have Hv := Lib.hid hv
  have Hs := Lib.hid hs0
  clear hv hs0
  have hle : ((off : Int) + s.length ≤ c.length) := by omega
  go_enter Try.func53, Try.ntmps53
  go_wp2_with ((with_reducible show wpList _ _ _ (Oper.mk (some 24) _ _ _ _ _ :: _) _ _); refine wpList_copy_onto _ rfl (.tmp 22) (.tmp 23) 56 56 rfl 5 Try.underlying56 u8_size (.slice B c.length cc) c.length _ Hv.out off _ _ rfl (by intro A1 c2 e hne; cases e; rw [if_neg (by omega)]) (.slice A s.length cp) s.length (bys s) rfl Hs.out (bys_one s) (by omega) ?_; generalize (if cc = off then B else B.map (·.add off)) = D22; intro w2 hown2 hg2; have Hown2 := Lib.hid hown2; have Hg2 := Lib.hid hg2; clear hown2 hg2)
  go_ret
  exact ⟨_, rfl, Hown2.out, Hg2.out, .inl rfl⟩

theorem splice_map {α β : Type} (f : α → β) (L : List α) (off : Nat) (cs : List α) : splice (L.map f) off (cs.map f) = (splice L off cs).map f := by
  simp [splice, List.map_take, List.map_drop]
theorem splice_grow (c s : List UInt8) (off m : Nat) (h : c.length + m = off + s.length) : splice (c ++ List.replicate m 0) off s = lay c off s := by
  unfold splice lay
  congr 1
  · rw [List.take_append, List.take_append, List.take_replicate, List.take_replicate]
    congr 2
    omega
  · congr 1
    rw [List.drop_of_length_le (by simp; omega)]
    by_cases hm : m = 0
    · rw [List.drop_of_length_le (by omega)]
    · rw [List.drop_of_length_le (by omega)]
theorem splice_fit (c s : List UInt8) (off : Nat) (h : off + s.length ≤ c.length) : splice c off s = lay c off s := by
  unfold splice lay
  rw [show off - c.length = 0 by omega]
  simp

theorem put_any (w : World) (v vs : Value) (c s : List UInt8) (off : Nat) (hv : w.ownsRow 0 5 1 v c.length (bys c)) (hs : Reads w 1 vs s.length (bys s)) (hn : vs.ownBlock = none ∨ vs.ownBlock ≠ v.ownBlock) (ho : off + s.length ≤ 16777216) (hc : c.length ≤ 16777216) :
    Calls Try.prog 53 #[v, .int .i64 off, vs] w (PutPost w v (lay c off s).length (bys (lay c off s))) := by
  obtain ⟨B, cc, rfl, hcc⟩ := own_slice hv
  by_cases h : off + s.length ≤ c.length
  · have := put_fit w B cc vs c s off hv hcc hs hc h
    rw [show bys c = c.map _ from rfl, show bys s = s.map _ from rfl, splice_map, splice_fit c s off h] at this
    rw [length_lay, show max c.length (off + s.length) = c.length by omega]
    exact this
  · have := put_grow w B cc vs c s off (off + s.length - c.length) hv hs hn ho hc (by omega) (by omega) (by omega)
    rw [← bys_replicate, ← bys_append, show bys (c ++ _) = (c ++ _).map _ from rfl, show bys s = s.map _ from rfl, splice_map, splice_grow c s off _ (by omega)] at this
    rw [length_lay, show max c.length (off + s.length) = c.length + (off + s.length - c.length) by omega]
    exact this

/-! ### add -/

def AddPost (w : World) (g o : Nat) (v : Value) (n : Nat) (xs : List Value) (e : Ending) (w' : World) : Prop :=
  e = .returned (.tuple #[]) ∧ ∃ v' w1, w' = w1.setCell ⟨g, o, none⟩ v' ∧ w1.ownsRow 0 90 2 v' n xs ∧ Turns (fun k => v.ownBlock = some k) w w1 ∧ (v'.ownBlock = v.ownBlock ∨ ∃ k, v'.ownBlock = some k ∧ w.heap.size ≤ k)

set_option maxRecDepth 100000 in
set_option maxHeartbeats 400000 in
theorem add_any (w : World) (g o n cp : Nat) (A : Option Addr) (off : Int) (B : Option Addr) (tl tc : Nat) (xs : List Value) (hc : w.cell? ⟨g, o, none⟩ = some (.slice A n cp)) (hf : w.frozen? ⟨g, o, none⟩ = false)
    (hown : w.ownsRow 0 90 2 (.slice A n cp) n xs) (hn : n < 4000000000000) (hng : (Value.slice A n cp).ownBlock ≠ some g) :
    Calls Try.prog 56 #[.pointer (some ⟨g, o, none⟩), .agg #[.int .i64 off, .slice B tl tc]] w (AddPost w g o (.slice A n cp) (n + 1) (xs ++ [.int .i64 off, .slice B tl tc])) := by
  obtain ⟨i0, hi, hz0, hz1, hz2⟩ := info_parts pc_info
  have hgs := block_lt_of_cell hc
  dsimp only at hgs
  have Hown := Lib.hid hown
  have Hng := Lib.hid hng
  clear hown hng
  have mk : ∀ v' w1, w1.ownsRow 0 90 2 v' (n + 1) (xs ++ [.int .i64 off, .slice B tl tc]) → World.grownBy (((w.alloc (.cells #[.int .i64 off, .slice B tl tc] 90)).alloc (.cells #[.int .i64 off, .slice B tl tc] 90)).drew) w1 (Value.slice A n cp).ownBlock → (v'.ownBlock = (Value.slice A n cp).ownBlock ∨ v'.ownBlock = some (((w.alloc (.cells #[.int .i64 off, .slice B tl tc] 90)).alloc (.cells #[.int .i64 off, .slice B tl tc] 90)).drew).heap.size) →
    ∃ g1 c1, v' = .slice (some ⟨g1, 0, none⟩) (n + 1) c1 ∧ w1.cell? ⟨g, o, none⟩ = some (.slice A n cp) ∧ w1.frozen? ⟨g, o, none⟩ = false ∧ Hid (AddPost w g o (.slice A n cp) (n + 1) (xs ++ [.int .i64 off, .slice B tl tc]) (.returned (.tuple #[])) (w1.setCell ⟨g, o, none⟩ v')) := by
    intro v' w1 h1 h2 h3
    obtain ⟨g1, c1, rfl, _⟩ := own_form h1 (by omega)
    have ht : Turns (fun k => (Value.slice A n cp).ownBlock = some k) w w1 := Turns.grown (((Turns.refl _ w).alloc _).alloc _).drew h2 (fun k hk => .inl hk)
    refine ⟨g1, c1, rfl, (ht.cell (p := ⟨g, o, none⟩) hgs Hng.out).trans hc, (ht.frozen (p := ⟨g, o, none⟩) hgs Hng.out).trans hf, rfl, _, w1, rfl, h1, ht, ?_⟩
    rcases h3 with h3 | h3
    · exact .inl h3
    · exact .inr ⟨_, h3, by simp; omega⟩
  have Hmk := Lib.hid mk
  clear mk
  have HR := Lib.hid (reads_new (w.alloc (.cells #[.int .i64 off, .slice B tl tc] 90)) 90 [.int .i64 off, .slice B tl tc] 1 2 1 rfl)
  rw [World.size_alloc] at HR
  go_enter Try.func56, Try.ntmps56
  go_wp2
  go_region_law (refine step_append_onto' _ rfl (.tmp 8) (.tmp 10) 58 rfl 90 i0 _ 2 32 Try.underlying58 hi hz0 hz1 hz2 rfl (by decide) (.slice A n cp) n xs rfl ((Hown.out.alloc _).alloc _) (.slice (some ⟨w.heap.size + 1, 0, none⟩) 1 1) 1 [.int .i64 off, .slice B tl tc] rfl HR.out (by simp [Value.oneCell']) (by simp only [maxLen]; omega) (by omega) ?_; intro v1 w1 hown1 hg1 hat1; obtain ⟨g1, c1, hv1, hc1, hf1, HP⟩ := Hmk.out v1 w1 hown1 hg1 hat1; subst hv1; clear hown1 hg1 hat1)
  all_goals
    go_end0
    exact HP.out

/-! ### the small ones -/

set_option maxHeartbeats 400000 in
theorem new_any (w : World) :
    Calls Try.prog 21 #[] w fun e w' => e = .returned (.pointer (some ⟨w.heap.size, 0, none⟩)) ∧ w' = w.alloc (.cells #[.slice none 0 0, .slice none 0 0, .slice none 0 0, .int .i64 0, .bool false, .int .i64 0] 62) := by
  go_enter Try.func21, Try.ntmps21
  go_wp2
  go_ret
  exact ⟨rfl, rfl⟩

set_option maxHeartbeats 400000 in
theorem size_any (w : World) (g : Nat) (a : Option Addr) (n c : Nat) (h0 : w.cell? ⟨g, 0, none⟩ = some (.slice a n c)) :
    Calls Try.prog 24 #[.pointer (some ⟨g, 0, none⟩)] w fun e w' => e = .returned (.int .i64 n) ∧ w = w' := by
  go_enter Try.func24, Try.ntmps24
  go_wp2
  go_ret
  exact ⟨rfl, rfl⟩

set_option maxHeartbeats 400000 in
theorem calls_any (w : World) (g : Nat) (n : Int) (h0 : w.cell? ⟨g, 3, none⟩ = some (.int .i64 n)) :
    Calls Try.prog 26 #[.pointer (some ⟨g, 0, none⟩)] w fun e w' => e = .returned (.int .i64 n) ∧ w = w' := by
  go_enter Try.func26, Try.ntmps26
  go_wp2
  go_ret
  exact ⟨rfl, rfl⟩

set_option maxHeartbeats 400000 in
theorem fail_any (w : World) (g : Nat) (n : Int) (u v : Value) (h4 : w.cell? ⟨g, 4, none⟩ = some u) (h5 : w.cell? ⟨g, 5, none⟩ = some v) (f4 : w.frozen? ⟨g, 4, none⟩ = false) (f5 : w.frozen? ⟨g, 5, none⟩ = false) :
    Calls Try.prog 37 #[.pointer (some ⟨g, 0, none⟩), .int .i64 n] w fun e w' => e = .returned (.tuple #[]) ∧ w' = (w.setCell ⟨g, 4, none⟩ (.bool (decide (-1 < n)))).setCell ⟨g, 5, none⟩ (.int .i64 n) := by
  go_enter Try.func37, Try.ntmps37
  go_wp2
  go_end0
  exact ⟨rfl, rfl⟩

set_option maxHeartbeats 400000 in
theorem call_off (w : World) (g : Nat) (h4 : w.cell? ⟨g, 4, none⟩ = some (.bool true)) (h5 : w.cell? ⟨g, 5, none⟩ = some (.int .i64 0)) :
    Calls Try.prog 55 #[.pointer (some ⟨g, 0, none⟩)] w fun e w' => e = .returned (.int .i64 70) ∧ w = w' := by
  go_enter Try.func55, Try.ntmps55
  go_wp2
  go_ret
  exact ⟨rfl, rfl⟩

set_option maxHeartbeats 400000 in
theorem call_lim (w : World) (g : Nat) (l n : Int) (hl : 0 < l) (hl' : l ≤ 9223372036854775807) (hn : 0 ≤ n) (hn' : n < 1000000) (h3 : w.cell? ⟨g, 3, none⟩ = some (.int .i64 n)) (h4 : w.cell? ⟨g, 4, none⟩ = some (.bool true)) (h5 : w.cell? ⟨g, 5, none⟩ = some (.int .i64 l))
    (f3 : w.frozen? ⟨g, 3, none⟩ = false) (f5 : w.frozen? ⟨g, 5, none⟩ = false) :
    Calls Try.prog 55 #[.pointer (some ⟨g, 0, none⟩)] w fun e w' => e = .returned (.int .i64 0) ∧ w' = (w.setCell ⟨g, 5, none⟩ (.int .i64 (l - 1))).setCell ⟨g, 3, none⟩ (.int .i64 (n + 1)) := by
  go_enter Try.func55, Try.ntmps55
  go_wp2
  go_ret
  exact ⟨rfl, rfl⟩

set_option maxHeartbeats 400000 in
theorem call_on (w : World) (g : Nat) (n : Int) (hn : 0 ≤ n) (hn' : n < 1000000) (h3 : w.cell? ⟨g, 3, none⟩ = some (.int .i64 n)) (h4 : w.cell? ⟨g, 4, none⟩ = some (.bool false))
    (f3 : w.frozen? ⟨g, 3, none⟩ = false) :
    Calls Try.prog 55 #[.pointer (some ⟨g, 0, none⟩)] w fun e w' => e = .returned (.int .i64 0) ∧ w' = w.setCell ⟨g, 3, none⟩ (.int .i64 (n + 1)) := by
  go_enter Try.func55, Try.ntmps55
  go_wp2
  go_ret
  exact ⟨rfl, rfl⟩

set_option maxHeartbeats 400000 in
theorem settle_any (w : World) (g o : Nat) (v : Value) (h2 : w.cell? ⟨g, o, none⟩ = some v) (f2 : w.frozen? ⟨g, o, none⟩ = false) :
    Calls Try.prog 57 #[.pointer (some ⟨g, o, none⟩)] w fun e w' => e = .returned (.tuple #[]) ∧ w' = w.setCell ⟨g, o, none⟩ (.slice none 0 0) := by
  go_enter Try.func57, Try.ntmps57
  go_wp2
  go_end0
  exact ⟨rfl, rfl⟩

end Go.Proofs.Ytnfmcmjfpbmloaa
