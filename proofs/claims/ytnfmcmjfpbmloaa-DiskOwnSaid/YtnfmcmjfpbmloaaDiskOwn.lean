/-
  Proved: for every text, numbers and offsets DiskOwn returns true, and changes nothing that was there before the call. No conditions.
-/
import Derived.Test.YtnfmcmjfpbmloaaDkL
namespace Go.Proofs.Ytnfmcmjfpbmloaa
open Go.RowKit Go.ChangeShapes Go.WideShapes Go.ChangeAt
open Go.ChangeMaps (open_string shut_string)

set_option maxRecDepth 100000 in
set_option maxHeartbeats 1000000 in
theorem diskOwn_walk (w : World) (s : ByteArray) (_hs : s.size ≤ maxLen) (v : Value) (q : List Int) (hq : Reads w 1 v q.length (q.map (.int .i64))) (t0 t1 : Int) (_ht0 : -9223372036854775808 ≤ t0 ∧ t0 ≤ 9223372036854775807) (_ht1 : -9223372036854775808 ≤ t1 ∧ t1 ≤ 9223372036854775807) :
    Calls Try.prog 8 #[.string s, v, .agg #[.int .i64 t0, .int .i64 t1]] w fun e w' => e = .returned (.bool true) ∧ Below w.heap.size w w' := by
  have hq0 := hq
  obtain ⟨B, cq, rfl, -, -⟩ := hq
  have Hq := Lib.hid hq0
  clear hq0
  obtain ⟨N, hN⟩ : ∃ N : Nat, min (s.size : Int) 150 = N := ⟨(min (s.size : Int) 150).toNat, by omega⟩
  have hN1 : N ≤ s.size := by omega
  have hN2 : N ≤ 150 := by omega
  go_enter Try.func8, Try.ntmps8
  go_wp2_with fail
  refine (sanity_any _).mono ?_
  rintro e w1 ⟨rfl, hb⟩
  have HA1 := Lib.hid ((at_alloc (At.start w) _ _).keep (Turns.below (S := No) hb))
  clear hb
  go_wp2_with fail
  refine (at_new HA1.out).mono ?_
  rintro e w2 ⟨rfl, h⟩
  have HA2 := Lib.hid h
  clear h HA1
  obtain ⟨A, hA⟩ : ∃ A : ByteArray, s.extract 0 N ++ (⟨#[101, 110, 100]⟩ : ByteArray) = A := ⟨_, rfl⟩
  have hAs : A.size ≤ 153 := by
    have h3 : (⟨#[101, 110, 100]⟩ : ByteArray).size = 3 := rfl
    rw [← hA]
    simp
    omega
  have hAl : (A.data.toList.length : Int) ≤ 153 := by simp; omega
  obtain ⟨σ1, hσ1⟩ : ∃ σ1, DS.new.write 0 A.data.toList = σ1 := ⟨_, rfl⟩
  have L1 : σ1.lim = false := by rw [← hσ1, DS.write_lim]; rfl
  have N1 : σ1.n ≤ 1 := by rw [← hσ1]; exact DS.write_n DS.new _ _
  obtain ⟨σ2, hσ2⟩ : ∃ σ2, σ1.sync = σ2 := ⟨_, rfl⟩
  have L2 : σ2.lim = false := by rw [← hσ2, DS.sync_lim]; exact L1
  have N2 : σ2.n ≤ 2 := by rw [← hσ2]; have := DS.sync_n σ1; omega
  obtain ⟨σ3, hσ3⟩ : ∃ σ3, σ2.write (t0 % 100) [110, 101, 119] = σ3 := ⟨_, rfl⟩
  have L3 : σ3.lim = false := by rw [← hσ3, DS.write_lim]; exact L2
  have N3 : σ3.n ≤ 3 := by rw [← hσ3]; have := DS.write_n σ2 (t0 % 100) [110, 101, 119]; omega
  obtain ⟨γ1, hγ1⟩ : ∃ γ1, (σ3.crash q).write (t1 % 100) [99, 114, 97, 115, 104] = γ1 := ⟨_, rfl⟩
  have hγn : (γ1.n : Int) = 1 := by
    rw [← hγ1, DS.write_ok (DS.crash_lim _ _) (by omega) (by simp; omega)]
    rfl
  have E1 := Lib.hid (DS.writeE_ok (σ := DS.new) rfl (off := 0) (s := A.data.toList) (by omega) (by omega))
  have E2 := Lib.hid (DS.syncE_ok L1)
  have E3 := Lib.hid (DS.writeE_ok L2 (off := t0 % 100) (s := [110, 101, 119]) (by omega) (by simp; omega))
  have E4 := Lib.hid (DS.writeE_ok (DS.crash_lim σ3 q) (off := t1 % 100) (s := [99, 114, 97, 115, 104]) (by omega) (by simp; omega))
  have E5 := Lib.hid (DS.writeE_ok L3 (off := 0) (s := [99, 104, 97, 110, 103, 101, 100, 32, 97, 103, 97, 105, 110]) (by omega) (by decide))
  have H1 := Lib.hid hσ1
  have H2 := Lib.hid hσ2
  have H3 := Lib.hid hσ3
  have H4 := Lib.hid hγ1
  have H5 := Lib.hid hγn
  clear hσ1 hσ2 hσ3 hγ1 hγn L1 L2 L3 hAl
  go_wp2_with fail
  clear hA
  refine (at_write_c HA2.out 0 rfl (by decide) _ _ 0 E1.out σ1 H1.out).mono ?_
  rintro e w3 ⟨rfl, h⟩
  have HA3 := Lib.hid h
  clear h HA2
  go_wp2_with fail
  refine (at_sync_c HA3.out 0 rfl (by omega) 0 E2.out σ2 H2.out).mono ?_
  rintro e w4 ⟨rfl, h⟩
  have HA4 := Lib.hid h
  have c0 := HA4.out.cell 1 rfl 0 _ rfl
  clear h HA3
  go_wp2_with fail
  refine (mod_any t0 100 _ (by omega) (by omega)).mono ?_
  rintro e w4 ⟨rfl, rfl⟩
  clear c0
  go_wp2_with fail
  refine (at_write_c HA4.out 0 rfl (by omega) _ _ 0 E3.out σ3 H3.out).mono ?_
  rintro e w5 ⟨rfl, h⟩
  have HA5 := Lib.hid h
  clear h HA4
  go_wp2_with fail
  refine (at_crash HA5.out 0 rfl _ q (HA5.out.reads Hq.out)).mono ?_
  rintro e w6 ⟨rfl, h⟩
  have HA6 := Lib.hid h
  clear h HA5
  go_wp2_with fail
  refine (at_read HA6.out 1 rfl _ _).mono ?_
  rintro e w7 ⟨rfl, h⟩
  have HA7 := Lib.hid h
  have c1 := HA7.out.cell 2 rfl 1 _ rfl
  clear h HA6
  go_wp2_with fail
  refine (mod_any t1 100 _ (by omega) (by omega)).mono ?_
  rintro e w7 ⟨rfl, rfl⟩
  clear c1
  go_wp2_with fail
  refine (at_write_c HA7.out 0 rfl (show 0 < 100000 by omega) _ _ 0 E4.out γ1 H4.out).mono ?_
  rintro e w8 ⟨rfl, h⟩
  have HA8 := Lib.hid h
  clear h HA7
  go_wp2_with fail
  refine (at_read HA8.out 0 rfl _ _).mono ?_
  rintro e w9 ⟨rfl, h⟩
  have HA9 := Lib.hid h
  clear h HA8
  go_wp2_with fail
  refine (at_read HA9.out 1 rfl _ _).mono ?_
  rintro e w10 ⟨rfl, h⟩
  have HA10 := Lib.hid h
  clear h HA9
  go_wp2_with fail
  refine (at_write_c HA10.out 1 rfl (by omega) _ _ 0 E5.out _ rfl).mono ?_
  rintro e w11 ⟨rfl, h⟩
  have HA11 := Lib.hid h
  clear h HA10
  go_wp2_with fail
  refine (at_read HA11.out 0 rfl _ _).mono ?_
  rintro e w12 ⟨rfl, h⟩
  have HA12 := Lib.hid h
  clear h HA11
  go_wp2_with fail
  refine (at_calls_c HA12.out 0 rfl 1 H5.out).mono ?_
  rintro e w13 ⟨rfl, rfl⟩
  go_wp2_with fail
  go_ret
  exact ⟨rfl, HA12.out.below⟩

set_option maxRecDepth 100000 in
theorem diskOwn_lifted (os : Os) (started : os.Started) (H : Type) (enc : TypeId × Value → H) :
    ReturnsInHanded {} Try.checked os 8 .any (Rows.diskOwnSpec.pre6 enc Try.prog Try.f8 Rows.diskOwnRow.domain false) (Rows.diskOwnSpec.post enc Try.prog Try.f8 false true false false) := by
  refine returnsInHanded_of_change (C := Try.checked) own_knob started (by kernel_rfl) Try.func8
    (ChangeSpec.witness6 (enc := enc) (C := Try.checked) false ⟨#[], #[.string ByteArray.empty, .slice none 0 0, .agg #[.int .i64 0, .int .i64 0]], []⟩ 8 (by kernel_rfl) (by kernel_rfl) (by kernel_rfl) (by kernel_rfl)) ?_
  intro W base args ds gs before hval0 hW hcnd _
  have hval : ∀ (j : Nat) t v, Try.f8.params[j]? = some t → args[j]? = some v → Value.okWide Try.prog W .any base t v := hval0
  have hW' := hW
  obtain ⟨p, q, hA0, hV, rfl, hfz, hnd⟩ := hW
  have hA : DataW.TrodAll enc Try.prog W 0 (fun _ => true) true Try.f8.params.toList args.toList ds p := hA0
  rw [Try.params8] at hA hval
  obtain ⟨v0, vs0, d0, ds0, p0, q0, hargs, rfl, rfl, h0, r0⟩ := trodAll_cons hA
  obtain ⟨v1, vs1, d1, ds1, p1, q1, rfl, rfl, rfl, h1, r1⟩ := trodAll_cons r0
  obtain ⟨v2, vs2, d2, ds2, p2, q2, rfl, rfl, rfl, h2, r2⟩ := trodAll_cons r1
  obtain ⟨rfl, rfl, rfl⟩ := trodAll_nil r2
  obtain rfl : args = #[v0, v1, v2] := by cases args; simp_all
  obtain ⟨rfl, rfl⟩ := trodVars_none hV
  clear hA0 hval0
  have lt0 : ∀ x ∈ p0, x.block < W.heap.size := by obtain ⟨m, hm⟩ := h0; exact DataW.trod_lt m _ _ _ hm
  obtain ⟨s0, e0, _, _, ws0⟩ := open_string Try.underlying9 (hval 0 9 v0 rfl rfl) h0
  subst e0
  have lt1 : ∀ x ∈ p1, x.block < W.heap.size := by obtain ⟨m, hm⟩ := h1; exact DataW.trod_lt m _ _ _ hm
  obtain ⟨l1, R1⟩ := arg_ints (hval 1 36 v1 rfl rfl) h1
  have lt2 : ∀ x ∈ p2, x.block < W.heap.size := by obtain ⟨m, hm⟩ := h2; exact DataW.trod_lt m _ _ _ hm
  obtain ⟨a2, b2, e2, ba2, bb2⟩ := arg_two (hval 2 42 v2 rfl rfl) h2
  subst e2
  refine (diskOwn_walk W s0 ws0 v1 l1 R1 a2 b2 ba2 bb2).mono fun e W' ⟨he, bel⟩ => ?_
  subst he
  exact ⟨_, rfl, _, _, _, [], _, [], hW', trodAll_mk1 (shut_bool Try.underlying4 _), (trodAll_cons_mk (Below.trod laid_out (by kernel_rfl) (of_decide_eq_true (by kernel_rfl)) h0 bel lt0) (trodAll_cons_mk (Below.trod laid_out (by kernel_rfl) (of_decide_eq_true (by kernel_rfl)) h1 bel lt1) (trodAll_cons_mk (Below.trod laid_out (by kernel_rfl) (of_decide_eq_true (by kernel_rfl)) h2 bel lt2) trodAll_mk0))), rfl, bel.frame _, fun h => by cases h⟩

theorem diskOwn_holds : Rows.DiskOwnSaid :=
  OpenClaim.holds_of_wide 8 Try.f8 rfl rfl rfl rfl rfl rfl rfl ⟨rfl, rfl, rfl, rfl, rfl⟩ rfl rfl rfl rfl rfl (by kernel_rfl) Try.func8 (by kernel_rfl)
    (of_decide_eq_true (by kernel_rfl)) (by unfold Func.isWrapper; first | (rw [if_pos (by decide +kernel)]; kernel_rfl) | (rw [if_neg (by decide +kernel)]; exact ⟨rfl, rfl⟩))
    (fun os started H enc _ => diskOwn_lifted os started H enc)
#print axioms diskOwn_holds
end Go.Proofs.Ytnfmcmjfpbmloaa
