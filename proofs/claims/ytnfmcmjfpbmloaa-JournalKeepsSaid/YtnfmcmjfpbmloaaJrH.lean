/-
  The reference journal: Same, New, Append, Opens; Many and short.
-/
import Derived.Test.YtnfmcmjfpbmloaaJrD
import Derived.Test.YtnfmcmjfpbmloaaJrG
namespace Go.Proofs.Ytnfmcmjfpbmloaa
open Go.RowKit

def strs (l : List (List UInt8)) : List Value := l.map fun s => .string (str s)
theorem length_strs (l : List (List UInt8)) : (strs l).length = l.length := by simp [strs]

theorem reads_at {w : World} {A : Option Addr} {n c : Nat} {l : List (List UInt8)} (h : Reads w 1 (.slice A n c) n (strs l)) (k : Nat) (s : List UInt8) (hk : l[k]? = some s) : ∃ b off, A = some ⟨b, off, none⟩ ∧ w.cell? ⟨b, off + k, none⟩ = some (.string (str s)) := by
  have hkl : k < l.length := (List.getElem?_eq_some_iff.1 hk).1
  have hl : (strs l).length = n := by
    obtain ⟨_, _, h1, h2, _⟩ := h
    simpa using h2
  rw [length_strs] at hl
  obtain ⟨b, off, rfl, _, hc⟩ := h.elem (by omega) (by omega)
  refine ⟨b, off, rfl, ?_⟩
  rw [hc k (by rw [length_strs]; omega)]
  simp [strs, hk]

set_option maxRecDepth 100000 in
set_option maxHeartbeats 2000000 in
theorem same34_any (w : World) (va vb : Value) (a b : List (List UInt8)) (ha : Reads w 1 va a.length (strs a)) (hb : Reads w 1 vb b.length (strs b)) (hla : a.length ≤ 1000000000) (hlb : b.length ≤ 1000000000) :
    Calls Try.prog 48 #[va, vb] w fun e w' => e = .returned (.bool (decide (a = b))) ∧ ∃ n, w' = w.drewN n := by
  have ha0 := ha
  have hb0 := hb
  obtain ⟨A, ca, rfl, -, -⟩ := ha
  obtain ⟨B, cb, rfl, -, -⟩ := hb
  have HA := Lib.hid ha0
  have HB := Lib.hid hb0
  clear ha0 hb0
  by_cases hlen : a.length = b.length
  · have hlen1 : ((a.length : Int) == (b.length : Int)) = true := by simp [hlen]
    have HL := Lib.hid hlen
    clear hlen
    go_enter Try.func48, Try.ntmps48
    go_wp2_with fail
    go_loopw [5] (fun i wr => ∃ k : Nat, k ≤ a.length ∧ i = .int .i64 (k : Int) ∧ (∃ n, wr = w.drewN n) ∧ Hid (a.take k = b.take k)) (fun i _ => a.length - (intOf i).toNat)
    case atStart => exact ⟨0, by omega, rfl, ⟨0, rfl⟩, rfl⟩
    case round =>
      obtain ⟨k, hk, rfl, ⟨n0, rfl⟩, HT⟩ := hrel
      by_cases hlt : k < a.length
      · have hltb : k < b.length := by have := HL.out; omega
        have hltI : (k : Int) < (a.length : Int) := by omega
        have hltbI : (k : Int) < (b.length : Int) := by omega
        obtain ⟨x, hx⟩ : ∃ x, a[k]? = some x := ⟨_, List.getElem?_eq_getElem hlt⟩
        obtain ⟨y, hy⟩ : ∃ y, b[k]? = some y := ⟨_, List.getElem?_eq_getElem hltb⟩
        obtain ⟨b1, o1, hA, c1⟩ := reads_at HA.out k x hx
        obtain ⟨b2, o2, hB, c2⟩ := reads_at HB.out k y hy
        subst hA hB
        have c1' : (w.drewN n0).cell? ⟨b1, o1 + k, none⟩ = some (.string (str x)) := c1
        have c2' : (w.drewN n0).cell? ⟨b2, o2 + k, none⟩ = some (.string (str y)) := c2
        have HN : Hid (∀ m, (w.drewN n0).drewN m = w.drewN (n0 + m)) := fun m => by simp [World.drewN, Nat.add_assoc]
        clear c1 c2
        generalize w.drewN n0 = wr at *
        by_cases hxy : x = y
        · subst hxy
          have HT2 : Hid (a.take (k + 1) = b.take (k + 1)) := by
            show _ = _
            rw [List.take_add_one, List.take_add_one, HT.out, hx, hy]
          clear hx hy
          go_wp2_with fail
          go_quiet (fail)
          go_wp2_with fail
          exact ⟨⟨k + 1, by omega, by go_num, ⟨_, HN.out _⟩, HT2⟩, by simp [intOf]; omega⟩
        · have hs : ((str x).toList == (str y).toList) = false := by
            rw [beq_eq_false_iff_ne]
            intro e
            apply hxy
            rw [← str_data x, ← str_data y]
            rw [ByteArray.toList_eq, ByteArray.toList_eq] at e
            exact e
          have hne : decide (a = b) = false := by
            apply decide_eq_false
            intro e
            subst e
            rw [hx] at hy
            injection hy with hy
            exact hxy hy
          have HD := Lib.hid hne
          clear hx hy hne
          go_wp2_with fail
          go_quiet (fail)
          go_wp2_with fail
          go_ret
          exact ⟨by rw [HD.out]; rfl, _, HN.out _⟩
      · have hltI : ¬ (k : Int) < (a.length : Int) := by omega
        have HD : Hid (decide (a = b) = true) := by
          apply decide_eq_true
          have h := HT.out
          rwa [List.take_of_length_le (by omega), List.take_of_length_le (by have := HL.out; omega)] at h
        go_wp2_with fail
        go_ret
        exact ⟨by rw [HD.out]; rfl, _, rfl⟩
  · have hlen1 : ((a.length : Int) == (b.length : Int)) = false := by simp; omega
    have hne : decide (a = b) = false := by
      apply decide_eq_false
      intro e
      exact hlen (by rw [e])
    rw [hne]
    go_enter Try.func48, Try.ntmps48
    go_wp2_with fail
    go_ret
    exact ⟨rfl, 0, rfl⟩
section
variable {w0 w : World} {L : List HP} {g jb gm : Nat} {σ : DS} {m b e : Int} {br : Bool}

theorem at_same (h : At w0 w L) {va vb : Value} {a b : List (List UInt8)} (ha : Reads w 1 va a.length (strs a)) (hb : Reads w 1 vb b.length (strs b)) (hla : a.length ≤ 1000000000) (hlb : b.length ≤ 1000000000) :
    Calls Try.prog 48 #[va, vb] w fun e w' => e = .returned (.bool (decide (a = b))) ∧ At w0 w' L := by
  refine (same34_any w va vb a b ha hb hla hlb).mono ?_
  rintro e w' ⟨rfl, n, rfl⟩
  exact ⟨rfl, h.drewN n⟩

theorem At.list {v : Value} {l : List (List UInt8)} (h : At w0 w L) (i : Nat) (hi : L[i]? = some (sl v l)) : Reads w 1 v l.length (strs l) := by
  obtain ⟨S, h1, _⟩ := h.get i hi
  exact Reads.of_own h1

set_option maxHeartbeats 400000 in
theorem many_any (h : At w0 w L) (i : Nat) (hi : L[i]? = some (jn jb g m b e br)) :
    Calls Try.prog 46 #[.pointer (some ⟨jb, 0, none⟩)] w fun r w' => r = .returned (.int .i64 m) ∧ w = w' := by
  have c := h.cell i hi 1 _ rfl
  clear h
  go_enter Try.func46, Try.ntmps46
  go_wp2
  go_ret
  exact ⟨rfl, rfl⟩
set_option maxHeartbeats 400000 in
theorem many_nil (w : World) : Calls Try.prog 46 #[.pointer none] w fun r w' => r = .returned (.int .i64 0) ∧ w = w' := by
  go_enter Try.func46, Try.ntmps46
  go_wp2
  go_ret
  exact ⟨rfl, rfl⟩

/-- A record, made short. -/
def sh (s : ByteArray) : ByteArray := s.extract 0 (min s.size 200)
theorem sh_size (s : ByteArray) : (sh s).size ≤ 200 := by unfold sh; simp; omega
set_option maxHeartbeats 400000 in
theorem short_any (w : World) (s : ByteArray) (hs : s.size ≤ maxLen) : Calls Try.prog 44 #[.string s] w fun r w' => r = .returned (.string (sh s)) ∧ w = w' := by
  unfold maxLen at hs
  obtain ⟨N, hN⟩ : ∃ N : Nat, min (s.size : Int) 200 = N := ⟨(min (s.size : Int) 200).toNat, by omega⟩
  have hN1 : N ≤ s.size := by omega
  have HF := Lib.hid (show s.extract 0 N = sh s by unfold sh; rw [show min s.size 200 = N by omega])
  go_enter Try.func44, Try.ntmps44
  go_wp2
  go_ret
  exact ⟨congrArg (fun x => Ending.returned (Value.string x)) HF.out, rfl⟩

/-- The reference journal in memory. -/
abbrev rjL (gm : Nat) (vL vM : Value) (l mb : List (List UInt8)) (br : Bool) (by' : Int) (L : List HP) : List HP := bl gm 74 #[vL, vM, .bool br, .int .i64 by'] :: sl vL l :: sl vM mb :: L
def RJ (w0 w : World) (gm : Nat) (l mb : List (List UInt8)) (br : Bool) (by' : Int) (L : List HP) : Prop := ∃ vL vM, At w0 w (rjL gm vL vM l mb br by' L)

theorem at_nil_list (h : At w0 w L) : At w0 w (sl (.slice none 0 0) [] :: L) :=
  h.more (Below.refl _ _) (P := sl (.slice none 0 0) []) (S := fun _ => False) ⟨World.ownsRow_nil _ _ _ _, fun k => by simp [Value.ownBlock]⟩ fun _ h => h.elim

set_option maxHeartbeats 400000 in
theorem rnew34_any (h : At w0 w L) : Calls Try.prog 42 #[] w fun r w' => r = .returned (.pointer (some ⟨w.heap.size, 0, none⟩)) ∧ RJ w0 w' w.heap.size [] [] false 0 L := by
  have h1 := at_alloc (at_nil_list (at_nil_list h)) 74 #[.slice none 0 0, .slice none 0 0, .bool false, .int .i64 0]
  have H := Lib.hid h1
  clear h h1
  go_enter Try.func42, Try.ntmps42
  go_wp2
  go_ret
  exact ⟨rfl, _, _, H.out⟩

set_option maxHeartbeats 400000 in
theorem fits_any (w : World) (by' : Int) (hc : w.cell? ⟨gm, 3, none⟩ = some (.int .i64 by')) (s : ByteArray) (hb0 : 0 ≤ by') (hb1 : by' ≤ 1000000) (hs : s.size ≤ 1000) :
    Calls Try.prog 66 #[.pointer (some ⟨gm, 0, none⟩), .string s] w fun r w' => r = .returned (.bool true) ∧ w = w' := by
  go_enter Try.func66, Try.ntmps66
  go_wp2
  go_ret
  exact ⟨by rw [decide_eq_true (show by' + (s.size : Int) + 16 + 256 ≤ 16777216 by omega)]; rfl, rfl⟩

set_option maxRecDepth 100000 in
set_option maxHeartbeats 400000 in
theorem rappend_broken {l mb : List (List UInt8)} {by' : Int} (h : RJ w0 w gm l mb true by' L) (s : ByteArray) (pw : Bool) :
    Calls Try.prog 45 #[.pointer (some ⟨gm, 0, none⟩), .string s, .bool pw] w fun r w' => r = .returned (.int .i64 70) ∧ RJ w0 w' gm l mb true by' L := by
  obtain ⟨vL, vM, h⟩ := h
  have c := h.cell 0 rfl 2 _ rfl
  have H := Lib.hid h
  clear h
  go_enter Try.func45, Try.ntmps45
  go_wp2
  go_ret
  exact ⟨rfl, _, _, H.out⟩

theorem at_list_grow {v v' : Value} {l l' : List (List UInt8)} {w1 : World} {o : Obj} (h : At w0 w L) (i : Nat) (hi : L[i]? = some (sl v l)) (hg : (w.alloc o).grownBy w1 v.ownBlock) (hown : w1.ownsRow 0 9 1 v' l'.length (strs l')) (hat : v'.ownBlock = v.ownBlock ∨ v'.ownBlock = some (w.alloc o).heap.size) :
    At w0 w1 (L.set i (sl v' l')) := by
  refine h.turn i hi fun S hS => ⟨fun k => v'.ownBlock = some k, ⟨hown, fun _ => Iff.rfl⟩, ?_, ?_⟩
  · exact ((Turns.refl S w).alloc o).grown hg fun k hk => .inl ((hS.2 k).2 hk)
  · intro k hk
    rcases hat with h1 | h1
    · exact .inl ((hS.2 k).2 (h1.symm.trans hk))
    · rw [hk] at h1
      injection h1 with h1
      rw [World.size_alloc] at h1
      exact .inr (by omega)

theorem strs_snoc (l : List (List UInt8)) (s : ByteArray) : strs l ++ [.string s] = strs (l ++ [s.data.toList]) := by simp [strs, str]

set_option maxRecDepth 100000 in
set_option maxHeartbeats 1000000 in
theorem rappend_yes {l mb : List (List UInt8)} {by' : Int} (h : RJ w0 w gm l mb false by' L) (s : ByteArray) (hb0 : 0 ≤ by') (hb1 : by' ≤ 1000000) (hs : s.size ≤ 1000) (hl : l.length ≤ 1000) :
    Calls Try.prog 45 #[.pointer (some ⟨gm, 0, none⟩), .string s, .bool true] w fun r w' => r = .returned (.int .i64 0) ∧ RJ w0 w' gm (l ++ [s.data.toList]) mb false (by' + s.size + 16) L := by
  obtain ⟨i0, hi, hz0, hz1, hz2⟩ := info_parts str_info
  obtain ⟨vL, vM, h⟩ := h
  have c2 := h.cell 0 rfl 2 _ rfl
  have c0 := h.cell 0 rfl 0 _ rfl
  have c3 := h.cell 0 rfl 3 _ rfl
  obtain ⟨SL, hown, _⟩ := h.get 1 rfl
  obtain ⟨A, c, rfl, _⟩ := own_slice hown
  have HO := Lib.hid hown
  have mk : ∀ v' w1, w1.ownsRow 0 9 1 v' (l.length + 1) (strs l ++ [.string s]) → (w.alloc (.cells #[.string s] 9)).grownBy w1 (Value.slice A l.length c).ownBlock → (v'.ownBlock = (Value.slice A l.length c).ownBlock ∨ v'.ownBlock = some (w.alloc (.cells #[.string s] 9)).heap.size) →
    ∃ g1 c1, v' = .slice (some ⟨g1, 0, none⟩) (l.length + 1) c1 ∧ w1.cell? ⟨gm, 0, none⟩ = some (.slice A l.length c) ∧ w1.frozen? ⟨gm, 0, none⟩ = false ∧ w1.cell? ⟨gm, 3, none⟩ = some (.int .i64 by') ∧ w1.frozen? ⟨gm, 3, none⟩ = false ∧
      Hid (RJ w0 ((w1.setCell ⟨gm, 0, none⟩ v').setCell ⟨gm, 3, none⟩ (.int .i64 (by' + s.size + 16))) gm (l ++ [s.data.toList]) mb false (by' + s.size + 16) L) := by
    intro v' w1 h1 h2 h3
    obtain ⟨g1, c1, rfl, _⟩ := own_form h1 (by omega)
    have hA := at_list_grow h 1 rfl h2 (l' := l ++ [s.data.toList]) (by rw [← strs_snoc, List.length_append]; exact h1) h3
    have hfz := hA.block 0 rfl
    exact ⟨g1, c1, rfl, hA.cell 0 rfl 0 _ rfl, frozen_of_row w1 _ _ _ _ hfz, hA.cell 0 rfl 3 _ rfl, frozen_of_row w1 _ _ _ _ hfz, _, _, at_set (at_set hA 0 rfl 0 _ _ rfl) 0 rfl 3 _ _ rfl⟩
  have Hmk := Lib.hid mk
  clear mk h hown
  go_enter Try.func45, Try.ntmps45
  go_wp2_with (first
    | (go_at_call 66; refine (fits_any w by' c3 s hb0 hb1 hs).mono ?_; rintro r w1 ⟨rfl, rfl⟩)
    | (at_builtin; refine wpList_append_onto' _ rfl (.tmp 34) (.tmp 36) 64 rfl 9 i0 _ 1 16 Try.underlying64 hi hz0 hz1 hz2 rfl (by decide) (.slice A l.length c) l.length (strs l) rfl (HO.out.alloc _) (.slice (some ⟨w.heap.size, 0, none⟩) 1 1) 1 [.string s] rfl (reads_new w 9 [.string s] 1 1 1 rfl) (by simp [Value.oneCell']) (by simp only [maxLen]; omega) (by omega) ?_; intro v1 w1 hown1 hg1 hat1; obtain ⟨g1, c1, hv1, k0, k1, k2, k3, HP⟩ := Hmk.out v1 w1 hown1 hg1 hat1; subst hv1; clear hown1 hg1 hat1))
  go_ret
  exact ⟨rfl, HP.out⟩

set_option maxRecDepth 100000 in
set_option maxHeartbeats 1000000 in
theorem rappend_no {l mb : List (List UInt8)} {by' : Int} (h : RJ w0 w gm l mb false by' L) (s : ByteArray) (hb0 : 0 ≤ by') (hb1 : by' ≤ 1000000) (hs : s.size ≤ 1000) (hl : mb.length ≤ 1000) :
    Calls Try.prog 45 #[.pointer (some ⟨gm, 0, none⟩), .string s, .bool false] w fun r w' => r = .returned (.int .i64 70) ∧ RJ w0 w' gm l (mb ++ [s.data.toList]) true by' L := by
  obtain ⟨i0, hi, hz0, hz1, hz2⟩ := info_parts str_info
  obtain ⟨vL, vM, h⟩ := h
  have c2 := h.cell 0 rfl 2 _ rfl
  have c3 := h.cell 0 rfl 3 _ rfl
  have f2 : w.frozen? ⟨gm, 2, none⟩ = false := frozen_of_row w _ _ _ _ (h.block 0 rfl)
  have hx := at_set h 0 rfl 2 (.bool true) _ rfl
  obtain ⟨SL, hown, _⟩ := hx.get 2 rfl
  obtain ⟨A, c, rfl, _⟩ := own_slice hown
  have c1 := hx.cell 0 rfl 1 _ rfl
  have HO := Lib.hid hown
  have mk : ∀ v' w1, w1.ownsRow 0 9 1 v' (mb.length + 1) (strs mb ++ [.string s]) → ((w.setCell ⟨gm, 2, none⟩ (.bool true)).alloc (.cells #[.string s] 9)).grownBy w1 (Value.slice A mb.length c).ownBlock → (v'.ownBlock = (Value.slice A mb.length c).ownBlock ∨ v'.ownBlock = some ((w.setCell ⟨gm, 2, none⟩ (.bool true)).alloc (.cells #[.string s] 9)).heap.size) →
    ∃ g1 c1, v' = .slice (some ⟨g1, 0, none⟩) (mb.length + 1) c1 ∧ w1.cell? ⟨gm, 1, none⟩ = some (.slice A mb.length c) ∧ w1.frozen? ⟨gm, 1, none⟩ = false ∧
      Hid (RJ w0 (w1.setCell ⟨gm, 1, none⟩ v') gm l (mb ++ [s.data.toList]) true by' L) := by
    intro v' w1 h1 h2 h3
    obtain ⟨g1, c1, rfl, _⟩ := own_form h1 (by omega)
    have hA := at_list_grow hx 2 rfl h2 (l' := mb ++ [s.data.toList]) (by rw [← strs_snoc, List.length_append]; exact h1) h3
    have hfz := hA.block 0 rfl
    exact ⟨g1, c1, rfl, hA.cell 0 rfl 1 _ rfl, frozen_of_row w1 _ _ _ _ hfz, _, _, at_set hA 0 rfl 1 _ _ rfl⟩
  have Hmk := Lib.hid mk
  have HW : Hid ((w.setCell ⟨gm, 2, none⟩ (.bool true)).heap.size = w.heap.size) := by show _ = _; simp [World.setCell]
  have hrd := reads_new (w.setCell ⟨gm, 2, none⟩ (.bool true)) 9 [.string s] 1 1 1 rfl
  rw [HW.out] at hrd
  have HRD := Lib.hid hrd
  clear mk h hown hx hrd
  go_enter Try.func45, Try.ntmps45
  go_wp2_with (first
    | (go_at_call 66; refine (fits_any w by' c3 s hb0 hb1 hs).mono ?_; rintro r w1 ⟨rfl, rfl⟩)
    | (at_builtin; refine wpList_append_onto' _ rfl (.tmp 24) (.tmp 26) 64 rfl 9 i0 _ 1 16 Try.underlying64 hi hz0 hz1 hz2 rfl (by decide) (.slice A mb.length c) mb.length (strs mb) rfl (HO.out.alloc _) (.slice (some ⟨w.heap.size, 0, none⟩) 1 1) 1 [.string s] rfl HRD.out (by simp [Value.oneCell']) (by simp only [maxLen]; omega) (by omega) ?_; intro v1 w1 hown1 hg1 hat1; obtain ⟨g1, c1, hv1, k0, k1, HP⟩ := Hmk.out v1 w1 hown1 hg1 hat1; subst hv1; clear hown1 hg1 hat1))
  go_ret
  exact ⟨rfl, HP.out⟩
end

end Go.Proofs.Ytnfmcmjfpbmloaa
