/-
  Proved: for every list of calls DiskPlays returns true, and changes nothing that was there before the call. No conditions.
-/
import Derived.Test.YtnfmcmjfpbmloaaDkS
namespace Go.Proofs.Ytnfmcmjfpbmloaa
open Go.RowKit Go.ChangeShapes Go.WideShapes Go.ChangeAt
open Go.ChangeMaps (open_string shut_string)

set_option maxRecDepth 100000 in
set_option maxHeartbeats 1000000 in
theorem diskPlays_walk (w : World) (v : Value) (l : List Act) (hl : Reads w 4 v l.length (l.flatMap actCells)) :
    Calls Try.prog 3 #[v] w fun e w' => e = .returned (.bool true) ∧ Below w.heap.size w w' := by
  have hl0 := hl
  obtain ⟨A, c, rfl, -, -⟩ := hl
  have Hl := Lib.hid hl0
  clear hl0
  go_enter Try.func3, Try.ntmps3
  go_wp2_with fail
  refine (sanity_any _).mono ?_
  rintro e w1 ⟨rfl, hb⟩
  have HA1 := Lib.hid ((At.start w).keep (Turns.below (S := No) hb))
  clear hb
  go_wp2_with fail
  refine (at_new HA1.out).mono ?_
  rintro e w2 ⟨rfl, h⟩
  have HA2 := Lib.hid h
  clear h HA1
  generalize w1.heap.size = gd at *
  go_wp2_with fail
  refine (at_rnew HA2.out).mono ?_
  rintro e w3 ⟨rfl, h⟩
  have HA3 := Lib.hid (desk_new (at_alloc h 30 #[.pointer (some ⟨gd, 0, none⟩), .pointer (some ⟨w2.heap.size, 0, none⟩)]))
  clear h HA2
  generalize w2.heap.size = gm at *
  have c0 := HA3.out.cell 0 rfl 0 _ rfl
  go_wp2_with fail
  clear c0
  obtain ⟨gx, hgx⟩ : ∃ gx, w3.heap.size = gx := ⟨_, rfl⟩
  rw [hgx] at HA3
  rw [hgx]
  generalize (w3.alloc (.cells #[.pointer (some ⟨gd, 0, none⟩), .pointer (some ⟨gm, 0, none⟩)] 30)) = w4 at *
  clear hgx
  go_loopw [5] (fun i wr => ∃ (k : Nat) (σ : DS) (gd gm : Nat), k ≤ 40 ∧ σ.n ≤ k ∧ i = .int .i64 (k : Int) ∧ Hid (At w wr (deskL gx gd gm σ []))) (fun i _ => 40 - (intOf i).toNat)
  case atStart => exact ⟨0, DS.new, gd, gm, by omega, by simp [DS.new], rfl, HA3⟩
  case round =>
    obtain ⟨k, σ, gd, gm, hk, hn, rfl, HA⟩ := hrel
    by_cases hlt : k < l.length ∧ k < 40
    · obtain ⟨hlt, hk40⟩ := hlt
      obtain ⟨a, ha⟩ : ∃ a, l[k]? = some a := ⟨_, List.getElem?_eq_getElem hlt⟩
      obtain ⟨b, off, hA, x0, x1, x2, x3⟩ := act_at HA.out Hl.out rfl k a ha
      subst hA
      clear ha
      have hlI : (k : Int) < (l.length : Int) := by omega
      have hkI : (k : Int) < 40 := by omega
      go_wp2_with fail
      refine (do_any HA.out (by omega) a).mono ?_
      rintro e w5 ⟨rfl, gd', gm', h5⟩
      have hn' := act_n σ a
      generalize σ.act a = σ' at *
      have c50 := h5.cell 0 rfl 0 _ rfl
      have c51 := h5.cell 0 rfl 1 _ rfl
      obtain ⟨S1, hd⟩ := h5.disk 1 rfl
      obtain ⟨S2, hm⟩ := h5.ref 2 rfl
      have Hd := Lib.hid (fun n => hd.drewN n)
      have Hm := Lib.hid (fun n => hm.turns (T := No) ((Turns.refl _ w5).drewN n) fun _ _ => id)
      have H5 := Lib.hid h5
      clear h5 hd hm HA x0 x1 x2 x3
      go_wp2_with fail
      go_quiet ((first
        | (go_at_call 24; exact quiet_same (size_is (Hd.out _)))
        | (go_at_call 25; exact quiet_same (rsize_is (Hm.out _)))
        | (go_at_call 26; exact quiet_same (calls_is (Hd.out _)))
        | (go_at_call 27; exact quiet_same (rcalls_is (Hm.out _)))))
      go_wp2
      exact ⟨⟨k + 1, σ', gd', gm', by omega, by omega, by go_num, H5.out.drewN _⟩, by simp [intOf]; omega⟩
    · have hor : ¬ ((k : Int) < (l.length : Int)) ∨ ((k : Int) < (l.length : Int) ∧ ¬ ((k : Int) < 40)) := by omega
      clear hlt
      rcases hor with h1 | ⟨h1, h2⟩
      all_goals
        go_wp2_with (go_at_call 28; refine (same_any HA.out).mono ?_; rintro e w6 ⟨rfl, h6⟩; have H6 := Lib.hid h6; clear h6)
        go_ret
        exact ⟨rfl, H6.out.below⟩

set_option maxRecDepth 100000 in
theorem diskPlays_lifted (os : Os) (started : os.Started) (H : Type) (enc : TypeId × Value → H) :
    ReturnsInHanded {} Try.checked os 3 .any (Rows.diskPlaysSpec.pre6 enc Try.prog Try.f3 Rows.diskPlaysRow.domain false) (Rows.diskPlaysSpec.post enc Try.prog Try.f3 false true false false) := by
  refine returnsInHanded_of_change (C := Try.checked) own_knob started (by kernel_rfl) Try.func3
    (ChangeSpec.witness6 (enc := enc) (C := Try.checked) false ⟨#[], #[.slice none 0 0], []⟩ 8 (by kernel_rfl) (by kernel_rfl) (by kernel_rfl) (by kernel_rfl)) ?_
  intro W base args ds gs before hval0 hW hcnd _
  have hval : ∀ (j : Nat) t v, Try.f3.params[j]? = some t → args[j]? = some v → Value.okWide Try.prog W .any base t v := hval0
  have hW' := hW
  obtain ⟨p, q, hA0, hV, rfl, hfz, hnd⟩ := hW
  have hA : DataW.TrodAll enc Try.prog W 0 (fun _ => true) true Try.f3.params.toList args.toList ds p := hA0
  rw [Try.params3] at hA hval
  obtain ⟨v0, vs0, d0, ds0, p0, q0, hargs, rfl, rfl, h0, r0⟩ := trodAll_cons hA
  obtain ⟨rfl, rfl, rfl⟩ := trodAll_nil r0
  obtain rfl : args = #[v0] := by cases args; simp_all
  obtain ⟨rfl, rfl⟩ := trodVars_none hV
  clear hA0 hval0
  have lt0 : ∀ x ∈ p0, x.block < W.heap.size := by obtain ⟨m, hm⟩ := h0; exact DataW.trod_lt m _ _ _ hm
  obtain ⟨l0, R0⟩ := arg_acts (hval 0 22 v0 rfl rfl) h0
  refine (diskPlays_walk W v0 l0 R0).mono fun e W' ⟨he, bel⟩ => ?_
  subst he
  exact ⟨_, rfl, _, _, _, [], _, [], hW', trodAll_mk1 (shut_bool Try.underlying4 _), (trodAll_cons_mk (Below.trod laid_out (by kernel_rfl) (of_decide_eq_true (by kernel_rfl)) h0 bel lt0) trodAll_mk0), rfl, bel.frame _, fun h => by cases h⟩

theorem diskPlays_holds : Rows.DiskPlaysSaid :=
  OpenClaim.holds_of_wide 3 Try.f3 rfl rfl rfl rfl rfl rfl rfl ⟨rfl, rfl, rfl, rfl, rfl⟩ rfl rfl rfl rfl rfl (by kernel_rfl) Try.func3 (by kernel_rfl)
    (of_decide_eq_true (by kernel_rfl)) (by unfold Func.isWrapper; first | (rw [if_pos (by decide +kernel)]; kernel_rfl) | (rw [if_neg (by decide +kernel)]; exact ⟨rfl, rfl⟩))
    (fun os started H enc _ => diskPlays_lifted os started H enc)
#print axioms diskPlays_holds
end Go.Proofs.Ytnfmcmjfpbmloaa
