/-
  Proved: for every list of calls and numbers DiskAgain returns true, and changes nothing that was there before the call. No conditions.
-/
import Derived.Test.YtnfmcmjfpbmloaaDkS
namespace Go.Proofs.Ytnfmcmjfpbmloaa
open Go.RowKit Go.ChangeShapes Go.WideShapes Go.ChangeAt
open Go.ChangeMaps (open_string shut_string)

theorem crash_crash (σ : DS) (a b : List Int) : (σ.crash a).crash b = σ.crash a := rfl

set_option maxRecDepth 100000 in
set_option maxHeartbeats 1000000 in
theorem diskAgain_walk (w : World) (v : Value) (l : List Act) (hl : Reads w 4 v l.length (l.flatMap actCells)) (va : Value) (qa : List Int) (ha : Reads w 1 va qa.length (qa.map (.int .i64))) (vb : Value) (qb : List Int) (hb' : Reads w 1 vb qb.length (qb.map (.int .i64))) :
    Calls Try.prog 9 #[v, va, vb] w fun e w' => e = .returned (.bool true) ∧ Below w.heap.size w w' := by
  have hl0 := hl
  obtain ⟨A, c, rfl, -, -⟩ := hl
  have Hl := Lib.hid hl0
  clear hl0
  have ha0 := ha
  obtain ⟨Aa, ca, rfl, -, -⟩ := ha
  have Ha := Lib.hid ha0
  clear ha0
  have hb0 := hb'
  obtain ⟨Ab, cb, rfl, -, -⟩ := hb'
  have Hb := Lib.hid hb0
  clear hb0
  go_enter Try.func9, Try.ntmps9
  go_wp2_with fail
  refine (sanity_any _).mono ?_
  rintro e w1 ⟨rfl, hb⟩
  have HA1 := Lib.hid ((At.start w).keep (Turns.below (S := No) hb))
  clear hb
  go_wp2_with fail
  refine (at_new HA1.out).mono ?_
  rintro e w2 ⟨rfl, h⟩
  have HA2 := Lib.hid h
  clear h HA1
  generalize w1.heap.size = gd at *
  go_wp2_with fail
  refine (at_rnew HA2.out).mono ?_
  rintro e w3 ⟨rfl, h⟩
  have HA3 := Lib.hid (desk_new (at_alloc h 30 #[.pointer (some ⟨gd, 0, none⟩), .pointer (some ⟨w2.heap.size, 0, none⟩)]))
  clear h HA2
  generalize w2.heap.size = gm at *
  have c0 := HA3.out.cell 0 rfl 0 _ rfl
  go_wp2_with fail
  clear c0
  obtain ⟨gx, hgx⟩ : ∃ gx, w3.heap.size = gx := ⟨_, rfl⟩
  rw [hgx] at HA3
  rw [hgx]
  generalize (w3.alloc (.cells #[.pointer (some ⟨gd, 0, none⟩), .pointer (some ⟨gm, 0, none⟩)] 30)) = w4 at *
  clear hgx
  go_loopw [9] (fun i wr => ∃ (k : Nat) (σ : DS) (gd gm : Nat), k ≤ 15 ∧ σ.n ≤ k ∧ i = .int .i64 (k : Int) ∧ Hid (At w wr (deskL gx gd gm σ []))) (fun i _ => 15 - (intOf i).toNat)
  case atStart => exact ⟨0, DS.new, gd, gm, by omega, by simp [DS.new], rfl, HA3⟩
  case round =>
    obtain ⟨k, σ, gd, gm, hk, hn, rfl, HA⟩ := hrel
    by_cases hlt : k < l.length ∧ k < 15
    · obtain ⟨hlt, hk40⟩ := hlt
      obtain ⟨a, ha⟩ : ∃ a, l[k]? = some a := ⟨_, List.getElem?_eq_getElem hlt⟩
      obtain ⟨b, off, hA, x0, x1, x2, x3⟩ := act_at HA.out Hl.out rfl k a ha
      subst hA
      clear ha
      have hlI : (k : Int) < (l.length : Int) := by omega
      have hkI : (k : Int) < 15 := by omega
      go_wp2_with fail
      refine (do_any HA.out (by omega) a).mono ?_
      rintro e w5 ⟨rfl, gd', gm', h5⟩
      have hn' := act_n σ a
      generalize σ.act a = σ' at *
      have H5 := Lib.hid h5
      clear h5 HA x0 x1 x2 x3
      go_wp2
      exact ⟨⟨k + 1, σ', gd', gm', by omega, by omega, by go_num, H5⟩, by simp [intOf]; omega⟩
    · have hor : ¬ ((k : Int) < (l.length : Int)) ∨ ((k : Int) < (l.length : Int) ∧ ¬ ((k : Int) < 15)) := by omega
      clear hlt
      have c50 := HA.out.cell 0 rfl 0 _ rfl
      rcases hor with h1 | ⟨h1, h2⟩
      all_goals
        go_wp2_with fail
        refine (at_crash HA.out 1 rfl _ qa (HA.out.reads Ha.out)).mono ?_
        rintro e w6 ⟨rfl, h6⟩
        have H6 := Lib.hid h6
        clear h6
        go_wp2_with fail
        refine (at_crash H6.out 0 rfl _ qb (H6.out.reads Hb.out)).mono ?_
        rintro e w7 ⟨rfl, h7⟩
        rw [crash_crash] at h7
        have H7 := Lib.hid h7
        clear h7
        go_wp2_with fail
        refine (at_size H7.out 0 rfl).mono ?_
        rintro e w7' ⟨rfl, rfl⟩
        go_wp2_with fail
        refine (at_size H7.out 1 rfl).mono ?_
        rintro e w7' ⟨rfl, rfl⟩
        go_wp2_with fail
        refine (at_read H7.out 0 rfl _ _).mono ?_
        rintro e w8 ⟨rfl, h8⟩
        have H8 := Lib.hid h8
        clear h8
        go_wp2_with fail
        refine (at_read H8.out 1 rfl _ _).mono ?_
        rintro e w9 ⟨rfl, h9⟩
        have H9 := Lib.hid h9
        clear h9
        go_wp2_with fail
        refine (at_calls_c H9.out 0 rfl 0 rfl).mono ?_
        rintro e w9' ⟨rfl, rfl⟩
        go_wp2_with fail
        go_ret
        exact ⟨rfl, H9.out.below⟩

set_option maxRecDepth 100000 in
theorem diskAgain_lifted (os : Os) (started : os.Started) (H : Type) (enc : TypeId × Value → H) :
    ReturnsInHanded {} Try.checked os 9 .any (Rows.diskAgainSpec.pre6 enc Try.prog Try.f9 Rows.diskAgainRow.domain false) (Rows.diskAgainSpec.post enc Try.prog Try.f9 false true false false) := by
  refine returnsInHanded_of_change (C := Try.checked) own_knob started (by kernel_rfl) Try.func9
    (ChangeSpec.witness6 (enc := enc) (C := Try.checked) false ⟨#[], #[.slice none 0 0, .slice none 0 0, .slice none 0 0], []⟩ 8 (by kernel_rfl) (by kernel_rfl) (by kernel_rfl) (by kernel_rfl)) ?_
  intro W base args ds gs before hval0 hW hcnd _
  have hval : ∀ (j : Nat) t v, Try.f9.params[j]? = some t → args[j]? = some v → Value.okWide Try.prog W .any base t v := hval0
  have hW' := hW
  obtain ⟨p, q, hA0, hV, rfl, hfz, hnd⟩ := hW
  have hA : DataW.TrodAll enc Try.prog W 0 (fun _ => true) true Try.f9.params.toList args.toList ds p := hA0
  rw [Try.params9] at hA hval
  obtain ⟨v0, vs0, d0, ds0, p0, q0, hargs, rfl, rfl, h0, r0⟩ := trodAll_cons hA
  obtain ⟨v1, vs1, d1, ds1, p1, q1, rfl, rfl, rfl, h1, r1⟩ := trodAll_cons r0
  obtain ⟨v2, vs2, d2, ds2, p2, q2, rfl, rfl, rfl, h2, r2⟩ := trodAll_cons r1
  obtain ⟨rfl, rfl, rfl⟩ := trodAll_nil r2
  obtain rfl : args = #[v0, v1, v2] := by cases args; simp_all
  obtain ⟨rfl, rfl⟩ := trodVars_none hV
  clear hA0 hval0
  have lt0 : ∀ x ∈ p0, x.block < W.heap.size := by obtain ⟨m, hm⟩ := h0; exact DataW.trod_lt m _ _ _ hm
  obtain ⟨l0, R0⟩ := arg_acts (hval 0 22 v0 rfl rfl) h0
  have lt1 : ∀ x ∈ p1, x.block < W.heap.size := by obtain ⟨m, hm⟩ := h1; exact DataW.trod_lt m _ _ _ hm
  obtain ⟨l1, R1⟩ := arg_ints (hval 1 36 v1 rfl rfl) h1
  have lt2 : ∀ x ∈ p2, x.block < W.heap.size := by obtain ⟨m, hm⟩ := h2; exact DataW.trod_lt m _ _ _ hm
  obtain ⟨l2, R2⟩ := arg_ints (hval 2 36 v2 rfl rfl) h2
  refine (diskAgain_walk W v0 l0 R0 v1 l1 R1 v2 l2 R2).mono fun e W' ⟨he, bel⟩ => ?_
  subst he
  exact ⟨_, rfl, _, _, _, [], _, [], hW', trodAll_mk1 (shut_bool Try.underlying4 _), (trodAll_cons_mk (Below.trod laid_out (by kernel_rfl) (of_decide_eq_true (by kernel_rfl)) h0 bel lt0) (trodAll_cons_mk (Below.trod laid_out (by kernel_rfl) (of_decide_eq_true (by kernel_rfl)) h1 bel lt1) (trodAll_cons_mk (Below.trod laid_out (by kernel_rfl) (of_decide_eq_true (by kernel_rfl)) h2 bel lt2) trodAll_mk0))), rfl, bel.frame _, fun h => by cases h⟩

theorem diskAgain_holds : Rows.DiskAgainSaid :=
  OpenClaim.holds_of_wide 9 Try.f9 rfl rfl rfl rfl rfl rfl rfl ⟨rfl, rfl, rfl, rfl, rfl⟩ rfl rfl rfl rfl rfl (by kernel_rfl) Try.func9 (by kernel_rfl)
    (of_decide_eq_true (by kernel_rfl)) (by unfold Func.isWrapper; first | (rw [if_pos (by decide +kernel)]; kernel_rfl) | (rw [if_neg (by decide +kernel)]; exact ⟨rfl, rfl⟩))
    (fun os started H enc _ => diskAgain_lifted os started H enc)
#print axioms diskAgain_holds
end Go.Proofs.Ytnfmcmjfpbmloaa
