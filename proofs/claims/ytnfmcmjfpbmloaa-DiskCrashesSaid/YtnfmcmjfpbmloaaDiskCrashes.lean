/-
  Proved: for every list of calls, every survivors and every number DiskCrashes returns true, and changes nothing that was there before the call. No conditions.
-/
import Derived.Test.YtnfmcmjfpbmloaaDkS
namespace Go.Proofs.Ytnfmcmjfpbmloaa
open Go.RowKit Go.ChangeShapes Go.WideShapes Go.ChangeAt
open Go.ChangeMaps (open_string shut_string)

theorem deskL_swap (x d m : Nat) (σ : DS) (x' d' m' : Nat) (σ' : DS) (L : List HP) : (deskL x d m σ (deskL x' d' m' σ' L)).Perm (deskL x' d' m' σ' (deskL x d m σ L)) :=
  (List.perm_append_comm (l₁ := deskL x d m σ []) (l₂ := deskL x' d' m' σ' [])).append_right L

set_option maxRecDepth 100000 in
set_option maxHeartbeats 4000000 in
theorem diskCrashes_walk (w : World) (v : Value) (l : List Act) (hl : Reads w 4 v l.length (l.flatMap actCells)) (vq : Value) (q : List Int) (hq : Reads w 1 vq q.length (q.map (.int .i64))) (n : Int) (_hn : -9223372036854775808 ≤ n ∧ n ≤ 9223372036854775807) :
    Calls Try.prog 4 #[v, vq, .int .i64 n] w fun e w' => e = .returned (.bool true) ∧ Below w.heap.size w w' := by
  have hl0 := hl
  obtain ⟨A, c, rfl, -, -⟩ := hl
  have Hl := Lib.hid hl0
  have Hq := Lib.hid hq
  clear hl0 hq
  go_enter Try.func4, Try.ntmps4
  go_wp2_with fail
  refine (sanity_any _).mono ?_
  rintro e w1 ⟨rfl, hb⟩
  have HA1 := Lib.hid ((At.start w).keep (Turns.below (S := No) hb))
  clear hb
  go_wp2_with fail
  refine (at_new HA1.out).mono ?_
  rintro e w2 ⟨rfl, h⟩
  have HA2 := Lib.hid h
  clear h HA1
  generalize w1.heap.size = gd at *
  go_wp2_with fail
  refine (at_rnew HA2.out).mono ?_
  rintro e w3 ⟨rfl, h⟩
  have HA3 := Lib.hid (desk_new (at_alloc h 30 #[.pointer (some ⟨gd, 0, none⟩), .pointer (some ⟨w2.heap.size, 0, none⟩)]))
  clear h HA2
  generalize w2.heap.size = gm at *
  have c0 := HA3.out.cell 0 rfl 0 _ rfl
  go_wp2_with fail
  clear c0
  obtain ⟨gx, hgx⟩ : ∃ gx, w3.heap.size = gx := ⟨_, rfl⟩
  rw [hgx] at HA3
  rw [hgx]
  generalize (w3.alloc (.cells #[.pointer (some ⟨gd, 0, none⟩), .pointer (some ⟨gm, 0, none⟩)] 30)) = w4 at *
  clear hgx
  go_loopw [9] (fun i wr => ∃ (k : Nat) (σ : DS) (gd gm : Nat), k ≤ 20 ∧ σ.n ≤ k ∧ i = .int .i64 (k : Int) ∧ Hid (At w wr (deskL gx gd gm σ []))) (fun i _ => 20 - (intOf i).toNat)
  case atStart => exact ⟨0, DS.new, gd, gm, by omega, by simp [DS.new], rfl, HA3⟩
  case round =>
    obtain ⟨k, σ, gd, gm, hk, hn, rfl, HA⟩ := hrel
    by_cases hlt : k < l.length ∧ k < 20
    · obtain ⟨hlt, hk40⟩ := hlt
      obtain ⟨a, ha⟩ : ∃ a, l[k]? = some a := ⟨_, List.getElem?_eq_getElem hlt⟩
      obtain ⟨b, off, hA, x0, x1, x2, x3⟩ := act_at HA.out Hl.out rfl k a ha
      subst hA
      clear ha
      have hlI : (k : Int) < (l.length : Int) := by omega
      have hkI : (k : Int) < 20 := by omega
      go_wp2_with fail
      refine (mod_any a.kind 5 _ (by omega) (by omega)).mono ?_
      rintro e w5 ⟨rfl, rfl⟩
      have h5 := at_alloc HA.out 33 #[.int .i64 (a.kind % 5), .int .i64 a.off, .int .i64 a.n, .string a.text]
      have H5 := Lib.hid h5.tail
      clear h5 x0 x1 x2 x3
      go_wp2_with fail
      generalize wr.alloc (.cells #[.int .i64 (a.kind % 5), .int .i64 a.off, .int .i64 a.n, .string a.text] 33) = wy at *
      refine (do_any H5.out (by omega) ⟨a.kind % 5, a.off, a.n, a.text⟩).mono ?_
      rintro e w6 ⟨rfl, gd', gm', h6⟩
      have hn' := act_n σ ⟨a.kind % 5, a.off, a.n, a.text⟩
      generalize σ.act ⟨a.kind % 5, a.off, a.n, a.text⟩ = σ' at *
      have H6 := Lib.hid h6
      clear h6 H5 HA
      go_wp2
      exact ⟨⟨k + 1, σ', gd', gm', by omega, by omega, by go_num, H6⟩, by simp [intOf]; omega⟩
    · have hor : ¬ ((k : Int) < (l.length : Int)) ∨ ((k : Int) < (l.length : Int) ∧ ¬ ((k : Int) < 20)) := by omega
      clear hlt
      rcases hor with h1 | ⟨h1, h2⟩
      all_goals
        have c0 := HA.out.cell 0 rfl 0 _ rfl
        have c1 := HA.out.cell 0 rfl 1 _ rfl
        have HX := Lib.hid HA.out.drew
        have HR := Lib.hid (HX.out.reads Hq.out)
        go_wp2_with fail
        go_region_held3 (fun w' => w'.cell? ⟨gx, 0, none⟩ = some (.pointer (some ⟨gd, 0, none⟩)) ∧ w'.cell? ⟨gx, 1, none⟩ = some (.pointer (some ⟨gm, 0, none⟩)))
          (first
            | exact ⟨HX.out.cell 0 rfl 0 _ rfl, HX.out.cell 0 rfl 1 _ rfl⟩
            | exact ⟨HX.out.cell 1 rfl 0 _ rfl, HX.out.cell 1 rfl 1 _ rfl⟩
            | exact ⟨HX.out.cell 2 rfl 0 _ rfl, HX.out.cell 2 rfl 1 _ rfl⟩
            | exact ⟨(HX.out.alloc _).cell 2 rfl 0 _ rfl, (HX.out.alloc _).cell 2 rfl 1 _ rfl⟩)
          (first
            | (go_at_call 30; refine (at_crash HX.out 1 rfl vq q HR.out).mono ?_; rintro e w6 ⟨rfl, h6⟩; have HX := Lib.hid h6; have HR := Lib.hid (HX.out.reads Hq.out); clear h6)
            | (go_at_call 31; refine (at_rcrash HX.out 3 rfl vq q HR.out).mono ?_; rintro e w7 ⟨gn, rfl, h7⟩; have HX := Lib.hid h7; clear h7))
        have h8 := desk_new (at_alloc HX.out 30 #[.pointer (some ⟨wr.heap.size, 0, none⟩), .pointer (some ⟨gn, 0, none⟩)])
        clear HX HR HA c0 c1
        generalize σ.crash q = σ1 at *
        generalize wr.heap.size = ge at *
        generalize w7.heap.size = gy at *
        generalize w7.alloc (.cells #[.pointer (some ⟨ge, 0, none⟩), .pointer (some ⟨gn, 0, none⟩)] 30) = w8 at *
        have c0 := h8.cell 3 rfl 0 _ rfl
        have c1 := h8.cell 3 rfl 1 _ rfl
        have HX := Lib.hid h8.drew
        clear h8
        go_wp2_with fail
        go_region_held3 (fun w' => w'.cell? ⟨gx, 0, none⟩ = some (.pointer (some ⟨gd, 0, none⟩)) ∧ w'.cell? ⟨gx, 1, none⟩ = some (.pointer (some ⟨gm, 0, none⟩)))
          (first
            | exact ⟨HX.out.cell 3 rfl 0 _ rfl, HX.out.cell 3 rfl 1 _ rfl⟩
            | exact ⟨HX.out.cell 4 rfl 0 _ rfl, HX.out.cell 4 rfl 1 _ rfl⟩
            | exact ⟨HX.out.cell 5 rfl 0 _ rfl, HX.out.cell 5 rfl 1 _ rfl⟩
            | exact ⟨(HX.out.alloc _).cell 5 rfl 0 _ rfl, (HX.out.alloc _).cell 5 rfl 1 _ rfl⟩)
          (first
            | (go_at_call 32; refine (survive_any _ n).mono ?_; rintro e w9 ⟨vs, rfl, hb, hr⟩; have HX := Lib.hid (HX.out.keep (Turns.below (S := No) hb)); have HR := Lib.hid hr; clear hb hr)
            | (go_at_call 30; refine (at_crash HX.out 4 rfl vs (surv n) HR.out).mono ?_; rintro e w10 ⟨rfl, h6⟩; generalize w9.heap.size = ge2 at *; have HX := Lib.hid h6; clear h6)
            | (go_at_call 31; refine (at_rcrash HX.out 6 rfl vs (surv n) HR.out).mono ?_; rintro e w11 ⟨gn', rfl, h7⟩; have HX := Lib.hid h7; clear h7))
        have h12 := desk_new (at_alloc HX.out 30 #[.pointer (some ⟨ge2, 0, none⟩), .pointer (some ⟨gn', 0, none⟩)])
        clear c0 c1
        generalize σ.crash (surv n) = σ2 at *
        generalize w11.heap.size = gz at *
        generalize w11.alloc (.cells #[.pointer (some ⟨ge2, 0, none⟩), .pointer (some ⟨gn', 0, none⟩)] 30) = w12 at *
        have H12 := Lib.hid (h12.perm (deskL_swap _ _ _ _ _ _ _ _ _))
        clear h12
        go_wp2_with fail
        refine (same_any H12.out).mono ?_
        rintro e w13 ⟨rfl, h13⟩
        have H13 := Lib.hid (h13.perm (deskL_swap _ _ _ _ _ _ _ _ _))
        clear h13
        go_wp2_with fail
        refine (same_any H13.out).mono ?_
        rintro e w14 ⟨rfl, h14⟩
        have H14 := Lib.hid (h14.tail.tail.tail.perm (deskL_swap _ _ _ _ _ _ _ _ _))
        clear h14
        go_wp2_with fail
        refine (same_any H14.out).mono ?_
        rintro e w15 ⟨rfl, h15⟩
        have H15 := Lib.hid h15
        clear h15
        go_wp2
        go_ret
        exact ⟨rfl, H15.out.below⟩

set_option maxRecDepth 100000 in
theorem diskCrashes_lifted (os : Os) (started : os.Started) (H : Type) (enc : TypeId × Value → H) :
    ReturnsInHanded {} Try.checked os 4 .any (Rows.diskCrashesSpec.pre6 enc Try.prog Try.f4 Rows.diskCrashesRow.domain false) (Rows.diskCrashesSpec.post enc Try.prog Try.f4 false true false false) := by
  refine returnsInHanded_of_change (C := Try.checked) own_knob started (by kernel_rfl) Try.func4
    (ChangeSpec.witness6 (enc := enc) (C := Try.checked) false ⟨#[], #[.slice none 0 0, .slice none 0 0, .int .i64 0], []⟩ 8 (by kernel_rfl) (by kernel_rfl) (by kernel_rfl) (by kernel_rfl)) ?_
  intro W base args ds gs before hval0 hW hcnd _
  have hval : ∀ (j : Nat) t v, Try.f4.params[j]? = some t → args[j]? = some v → Value.okWide Try.prog W .any base t v := hval0
  have hW' := hW
  obtain ⟨p, q, hA0, hV, rfl, hfz, hnd⟩ := hW
  have hA : DataW.TrodAll enc Try.prog W 0 (fun _ => true) true Try.f4.params.toList args.toList ds p := hA0
  rw [Try.params4] at hA hval
  obtain ⟨v0, vs0, d0, ds0, p0, q0, hargs, rfl, rfl, h0, r0⟩ := trodAll_cons hA
  obtain ⟨v1, vs1, d1, ds1, p1, q1, rfl, rfl, rfl, h1, r1⟩ := trodAll_cons r0
  obtain ⟨v2, vs2, d2, ds2, p2, q2, rfl, rfl, rfl, h2, r2⟩ := trodAll_cons r1
  obtain ⟨rfl, rfl, rfl⟩ := trodAll_nil r2
  obtain rfl : args = #[v0, v1, v2] := by cases args; simp_all
  obtain ⟨rfl, rfl⟩ := trodVars_none hV
  clear hA0 hval0
  have lt0 : ∀ x ∈ p0, x.block < W.heap.size := by obtain ⟨m, hm⟩ := h0; exact DataW.trod_lt m _ _ _ hm
  obtain ⟨l0, R0⟩ := arg_acts (hval 0 22 v0 rfl rfl) h0
  have lt1 : ∀ x ∈ p1, x.block < W.heap.size := by obtain ⟨m, hm⟩ := h1; exact DataW.trod_lt m _ _ _ hm
  obtain ⟨l1, R1⟩ := arg_ints (hval 1 36 v1 rfl rfl) h1
  have lt2 : ∀ x ∈ p2, x.block < W.heap.size := by obtain ⟨m, hm⟩ := h2; exact DataW.trod_lt m _ _ _ hm
  obtain ⟨a2, e2, _, _, w2⟩ := open_int Try.underlying3 (hval 2 3 v2 rfl rfl) h2
  have b2 := bounds_i64 w2
  subst e2
  refine (diskCrashes_walk W v0 l0 R0 v1 l1 R1 a2 b2).mono fun e W' ⟨he, bel⟩ => ?_
  subst he
  exact ⟨_, rfl, _, _, _, [], _, [], hW', trodAll_mk1 (shut_bool Try.underlying4 _), (trodAll_cons_mk (Below.trod laid_out (by kernel_rfl) (of_decide_eq_true (by kernel_rfl)) h0 bel lt0) (trodAll_cons_mk (Below.trod laid_out (by kernel_rfl) (of_decide_eq_true (by kernel_rfl)) h1 bel lt1) (trodAll_cons_mk (Below.trod laid_out (by kernel_rfl) (of_decide_eq_true (by kernel_rfl)) h2 bel lt2) trodAll_mk0))), rfl, bel.frame _, fun h => by cases h⟩

theorem diskCrashes_holds : Rows.DiskCrashesSaid :=
  OpenClaim.holds_of_wide 4 Try.f4 rfl rfl rfl rfl rfl rfl rfl ⟨rfl, rfl, rfl, rfl, rfl⟩ rfl rfl rfl rfl rfl (by kernel_rfl) Try.func4 (by kernel_rfl)
    (of_decide_eq_true (by kernel_rfl)) (by unfold Func.isWrapper; first | (rw [if_pos (by decide +kernel)]; kernel_rfl) | (rw [if_neg (by decide +kernel)]; exact ⟨rfl, rfl⟩))
    (fun os started H enc _ => diskCrashes_lifted os started H enc)
#print axioms diskCrashes_holds
end Go.Proofs.Ytnfmcmjfpbmloaa
