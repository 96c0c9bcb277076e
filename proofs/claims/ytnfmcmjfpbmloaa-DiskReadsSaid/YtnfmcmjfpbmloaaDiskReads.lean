/-
  Proved: for every text, offsets and lengths DiskReads returns true, and changes nothing that was there before the call. No conditions.
-/
import Derived.Test.YtnfmcmjfpbmloaaDkS
namespace Go.Proofs.Ytnfmcmjfpbmloaa
open Go.RowKit Go.ChangeShapes Go.WideShapes Go.ChangeAt
open Go.ChangeMaps (open_string shut_string)

set_option maxRecDepth 100000 in
set_option maxHeartbeats 1000000 in
theorem diskReads_walk (w : World) (s : ByteArray) (_hs : s.size ≤ maxLen) (at' : Int) (_hat : -9223372036854775808 ≤ at' ∧ at' ≤ 9223372036854775807) (q0 q1 : Int) (_h0 : -9223372036854775808 ≤ q0 ∧ q0 ≤ 9223372036854775807) (_h1 : -9223372036854775808 ≤ q1 ∧ q1 ≤ 9223372036854775807) :
    Calls Try.prog 10 #[.string s, .int .i64 at', .agg #[.int .i64 q0, .int .i64 q1]] w fun e w' => e = .returned (.bool true) ∧ Below w.heap.size w w' := by
  have b1 : 0 ≤ at' % 8 := by omega
  have b2 : at' % 8 < 8 := by omega
  go_enter Try.func10, Try.ntmps10
  go_wp2_with fail
  refine (sanity_any _).mono ?_
  rintro e w1 ⟨rfl, hb⟩
  have HA1 := Lib.hid ((at_alloc (At.start w) _ #[.int .i64 q0, .int .i64 q1]).keep (Turns.below (S := No) hb))
  clear hb
  go_wp2_with fail
  refine (at_new HA1.out).mono ?_
  rintro e w2 ⟨rfl, h⟩
  have HA2 := Lib.hid h
  clear h HA1
  generalize w1.heap.size = gd at *
  go_wp2_with fail
  refine (at_rnew HA2.out).mono ?_
  rintro e w3 ⟨rfl, h⟩
  have HA3 := Lib.hid (desk_new (at_alloc h 30 #[.pointer (some ⟨gd, 0, none⟩), .pointer (some ⟨w2.heap.size, 0, none⟩)]))
  clear h HA2
  generalize w2.heap.size = gm at *
  have c0 := HA3.out.cell 0 rfl 0 _ rfl
  go_wp2_with fail
  clear c0
  obtain ⟨gx, hgx⟩ : ∃ gx, w3.heap.size = gx := ⟨_, rfl⟩
  rw [hgx] at HA3
  rw [hgx]
  generalize (w3.alloc (.cells #[.pointer (some ⟨gd, 0, none⟩), .pointer (some ⟨gm, 0, none⟩)] 30)) = w4 at *
  clear hgx
  refine (mod_any at' 8 _ (by omega) (by omega)).mono ?_
  rintro e w4' ⟨rfl, rfl⟩
  go_wp2_with fail
  refine (do_any HA3.out (by decide) ⟨0, 1 + at' % 8, 0, s⟩).mono ?_
  rintro e w5 ⟨rfl, gd', gm', h5⟩
  generalize DS.act DS.new ⟨0, 1 + at' % 8, 0, s⟩ = σ' at *
  have d0 := h5.cell 3 rfl 0 _ rfl
  have d1 := h5.cell 3 rfl 1 _ rfl
  have c50 := h5.cell 0 rfl 0 _ rfl
  have c51 := h5.cell 0 rfl 1 _ rfl
  obtain ⟨S1, hd⟩ := h5.disk 1 rfl
  obtain ⟨S2, hm⟩ := h5.ref 2 rfl
  have Hd := Lib.hid (fun n => hd.drewN n)
  have Hm := Lib.hid (fun n => hm.turns (T := No) ((Turns.refl _ w5).drewN n) fun _ _ => id)
  have H5 := Lib.hid h5
  clear h5 hd hm HA3
  go_wp2_with fail
  refine (mod_any q0 230 _ (by omega) (by omega)).mono ?_
  rintro e w5' ⟨rfl, rfl⟩
  go_wp2_with fail
  go_quiet ((first
    | (go_at_call 29; exact quiet_same (mod_any q1 20 _ (by omega) (by omega)))
    | (go_at_call 36; exact Calls.quiet_of (read_any (Hd.out _) _ _))
    | (go_at_call 38; exact Calls.quiet_of (rread_any (Hm.out _) _ _))))
  go_wp2
  go_ret
  exact ⟨rfl, (H5.out.drewN _).below⟩

set_option maxRecDepth 100000 in
theorem diskReads_lifted (os : Os) (started : os.Started) (H : Type) (enc : TypeId × Value → H) :
    ReturnsInHanded {} Try.checked os 10 .any (Rows.diskReadsSpec.pre6 enc Try.prog Try.f10 Rows.diskReadsRow.domain false) (Rows.diskReadsSpec.post enc Try.prog Try.f10 false true false false) := by
  refine returnsInHanded_of_change (C := Try.checked) own_knob started (by kernel_rfl) Try.func10
    (ChangeSpec.witness6 (enc := enc) (C := Try.checked) false ⟨#[], #[.string ByteArray.empty, .int .i64 0, .agg #[.int .i64 0, .int .i64 0]], []⟩ 8 (by kernel_rfl) (by kernel_rfl) (by kernel_rfl) (by kernel_rfl)) ?_
  intro W base args ds gs before hval0 hW hcnd _
  have hval : ∀ (j : Nat) t v, Try.f10.params[j]? = some t → args[j]? = some v → Value.okWide Try.prog W .any base t v := hval0
  have hW' := hW
  obtain ⟨p, q, hA0, hV, rfl, hfz, hnd⟩ := hW
  have hA : DataW.TrodAll enc Try.prog W 0 (fun _ => true) true Try.f10.params.toList args.toList ds p := hA0
  rw [Try.params10] at hA hval
  obtain ⟨v0, vs0, d0, ds0, p0, q0, hargs, rfl, rfl, h0, r0⟩ := trodAll_cons hA
  obtain ⟨v1, vs1, d1, ds1, p1, q1, rfl, rfl, rfl, h1, r1⟩ := trodAll_cons r0
  obtain ⟨v2, vs2, d2, ds2, p2, q2, rfl, rfl, rfl, h2, r2⟩ := trodAll_cons r1
  obtain ⟨rfl, rfl, rfl⟩ := trodAll_nil r2
  obtain rfl : args = #[v0, v1, v2] := by cases args; simp_all
  obtain ⟨rfl, rfl⟩ := trodVars_none hV
  clear hA0 hval0
  have lt0 : ∀ x ∈ p0, x.block < W.heap.size := by obtain ⟨m, hm⟩ := h0; exact DataW.trod_lt m _ _ _ hm
  obtain ⟨s0, e0, _, _, ws0⟩ := open_string Try.underlying9 (hval 0 9 v0 rfl rfl) h0
  subst e0
  have lt1 : ∀ x ∈ p1, x.block < W.heap.size := by obtain ⟨m, hm⟩ := h1; exact DataW.trod_lt m _ _ _ hm
  obtain ⟨a1, e1, _, _, w1⟩ := open_int Try.underlying3 (hval 1 3 v1 rfl rfl) h1
  have b1 := bounds_i64 w1
  subst e1
  have lt2 : ∀ x ∈ p2, x.block < W.heap.size := by obtain ⟨m, hm⟩ := h2; exact DataW.trod_lt m _ _ _ hm
  obtain ⟨a2, b2, e2, ba2, bb2⟩ := arg_two (hval 2 42 v2 rfl rfl) h2
  subst e2
  refine (diskReads_walk W s0 ws0 a1 b1 a2 b2 ba2 bb2).mono fun e W' ⟨he, bel⟩ => ?_
  subst he
  exact ⟨_, rfl, _, _, _, [], _, [], hW', trodAll_mk1 (shut_bool Try.underlying4 _), (trodAll_cons_mk (Below.trod laid_out (by kernel_rfl) (of_decide_eq_true (by kernel_rfl)) h0 bel lt0) (trodAll_cons_mk (Below.trod laid_out (by kernel_rfl) (of_decide_eq_true (by kernel_rfl)) h1 bel lt1) (trodAll_cons_mk (Below.trod laid_out (by kernel_rfl) (of_decide_eq_true (by kernel_rfl)) h2 bel lt2) trodAll_mk0))), rfl, bel.frame _, fun h => by cases h⟩

theorem diskReads_holds : Rows.DiskReadsSaid :=
  OpenClaim.holds_of_wide 10 Try.f10 rfl rfl rfl rfl rfl rfl rfl ⟨rfl, rfl, rfl, rfl, rfl⟩ rfl rfl rfl rfl rfl (by kernel_rfl) Try.func10 (by kernel_rfl)
    (of_decide_eq_true (by kernel_rfl)) (by unfold Func.isWrapper; first | (rw [if_pos (by decide +kernel)]; kernel_rfl) | (rw [if_neg (by decide +kernel)]; exact ⟨rfl, rfl⟩))
    (fun os started H enc _ => diskReads_lifted os started H enc)
#print axioms diskReads_holds
end Go.Proofs.Ytnfmcmjfpbmloaa
