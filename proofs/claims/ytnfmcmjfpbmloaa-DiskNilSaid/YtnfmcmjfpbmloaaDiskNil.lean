/-
  Proved: for every offset, text and numbers DiskNil returns true, and changes nothing that was there before the call. No conditions.
-/
import Derived.Test.YtnfmcmjfpbmloaaDkS
namespace Go.Proofs.Ytnfmcmjfpbmloaa
open Go.RowKit Go.ChangeShapes Go.WideShapes Go.ChangeAt
open Go.ChangeMaps (open_string shut_string)

theorem at_crash_nil {w0 w : World} {L : List HP} (h : At w0 w L) (v : Value) : Calls Try.prog 30 #[.pointer none, v] w fun e w' => e = .returned (.pointer (some ⟨w.heap.size, 0, none⟩)) ∧ At w0 w' (dk w.heap.size DS.new :: L) := by
  refine (crash_nil w v).mono ?_
  rintro e w' ⟨rfl, rfl⟩
  exact ⟨rfl, h.more ((Below.refl _ _).alloc (Nat.le_refl _) _) (P := dk w.heap.size DS.new) (isDisk_new w) fun k hk => Nat.le_of_eq hk.symm⟩
theorem at_zero {w0 w : World} {L : List HP} (h : At w0 w L) : At w0 (w.alloc zeroDisk) (dk w.heap.size DS.new :: L) :=
  h.more ((Below.refl _ _).alloc (Nat.le_refl _) _) (P := dk w.heap.size DS.new) (isDisk_new w) fun _ hk => Nat.le_of_eq hk.symm

set_option maxRecDepth 100000 in
set_option maxHeartbeats 1000000 in
theorem diskNil_walk (w : World) (off : Int) (_h0 : -9223372036854775808 ≤ off ∧ off ≤ 9223372036854775807) (s : ByteArray) (_hs : s.size ≤ maxLen) (va : Value) (qa : List Int) (ha : Reads w 1 va qa.length (qa.map (.int .i64))) :
    Calls Try.prog 12 #[.int .i64 off, .string s, va] w fun e w' => e = .returned (.bool true) ∧ Below w.heap.size w w' := by
  obtain ⟨Aa, ca, rfl, -, -⟩ := ha
  go_enter Try.func12, Try.ntmps12
  go_wp2_with fail
  refine (sanity_any _).mono ?_
  rintro e w1 ⟨rfl, hb⟩
  have HA1 := Lib.hid ((At.start w).keep (Turns.below (S := No) hb))
  clear hb
  go_wp2_with fail
  refine (fail_nil _ off).mono ?_
  rintro e w1' ⟨rfl, rfl⟩
  go_wp2_with fail
  refine (at_crash_nil HA1.out _).mono ?_
  rintro e w2 ⟨rfl, h⟩
  have HA2 := Lib.hid (at_zero h)
  clear h HA1
  generalize w1.heap.size = gc at *
  obtain ⟨gd, hgd⟩ : ∃ gd, w2.heap.size = gd := ⟨_, rfl⟩
  rw [hgd] at HA2
  unfold zeroDisk at HA2
  go_wp2_with fail
  refine (at_rnew HA2.out).mono ?_
  rintro e w3 ⟨rfl, h⟩
  rw [World.size_alloc, hgd] at h
  rw [World.size_alloc, hgd]
  have HA3 := Lib.hid (desk_new (at_alloc h 30 #[.pointer (some ⟨gd, 0, none⟩), .pointer (some ⟨gd + 1, 0, none⟩)]))
  clear h HA2 hgd
  obtain ⟨gx, hgx⟩ : ∃ gx, w3.heap.size = gx := ⟨_, rfl⟩
  rw [hgx] at HA3
  go_wp2_with fail
  generalize (w3.alloc (.cells #[.pointer (some ⟨gd, 0, none⟩), .pointer (some ⟨gd + 1, 0, none⟩)] 30)) = w4 at *
  clear hgx
  refine (do_any HA3.out (by decide) ⟨0, off, 0, s⟩).mono ?_
  rintro e w5 ⟨rfl, gd', gm', h5⟩
  have hn5 : (DS.act DS.new ⟨0, off, 0, s⟩).n ≤ 1 := act_n DS.new ⟨0, off, 0, s⟩
  generalize DS.act DS.new ⟨0, off, 0, s⟩ = σ' at *
  have H5 := Lib.hid h5
  clear h5 HA3
  go_wp2_with fail
  refine (do_any H5.out (by omega) ⟨7, 0, off, ByteArray.empty⟩).mono ?_
  rintro e w6 ⟨rfl, gd'', gm'', h6⟩
  generalize DS.act σ' ⟨7, 0, off, ByteArray.empty⟩ = σ'' at *
  have H6 := Lib.hid h6
  clear h6 H5
  go_wp2_with fail
  refine (same_any H6.out).mono ?_
  rintro e w7 ⟨rfl, h7⟩
  have H7 := Lib.hid h7
  clear h7 H6
  go_wp2_with fail
  refine (size_nil _).mono ?_
  rintro e w7' ⟨rfl, rfl⟩
  go_wp2_with fail
  refine (calls_nil _).mono ?_
  rintro e w7' ⟨rfl, rfl⟩
  go_wp2_with fail
  refine (show Calls Try.prog 36 #[.pointer none, .int .i64 off, .int .i64 5] w7 (fun e w' => e = .returned (.string ⟨#[]⟩) ∧ w7 = w') from read_nil w7 off 5).mono ?_
  rintro e w7' ⟨rfl, rfl⟩
  go_wp2_with fail
  refine (write_nil _ _ _).mono ?_
  rintro e w7' ⟨rfl, rfl⟩
  go_wp2_with fail
  refine (sync_nil _).mono ?_
  rintro e w7' ⟨rfl, rfl⟩
  go_wp2_with fail
  refine (at_size_c H7.out 3 rfl 0 (by decide)).mono ?_
  rintro e w7' ⟨rfl, rfl⟩
  go_wp2_with fail
  refine (at_write_c H7.out 3 rfl (by decide) _ _ 0 (by decide) _ rfl).mono ?_
  rintro e w8 ⟨rfl, h8⟩
  have H8 := Lib.hid h8
  clear h8
  go_wp2_with fail
  go_ret
  exact ⟨rfl, H8.out.below⟩

set_option maxRecDepth 100000 in
theorem diskNil_lifted (os : Os) (started : os.Started) (H : Type) (enc : TypeId × Value → H) :
    ReturnsInHanded {} Try.checked os 12 .any (Rows.diskNilSpec.pre6 enc Try.prog Try.f12 Rows.diskNilRow.domain false) (Rows.diskNilSpec.post enc Try.prog Try.f12 false true false false) := by
  refine returnsInHanded_of_change (C := Try.checked) own_knob started (by kernel_rfl) Try.func12
    (ChangeSpec.witness6 (enc := enc) (C := Try.checked) false ⟨#[], #[.int .i64 0, .string ByteArray.empty, .slice none 0 0], []⟩ 8 (by kernel_rfl) (by kernel_rfl) (by kernel_rfl) (by kernel_rfl)) ?_
  intro W base args ds gs before hval0 hW hcnd _
  have hval : ∀ (j : Nat) t v, Try.f12.params[j]? = some t → args[j]? = some v → Value.okWide Try.prog W .any base t v := hval0
  have hW' := hW
  obtain ⟨p, q, hA0, hV, rfl, hfz, hnd⟩ := hW
  have hA : DataW.TrodAll enc Try.prog W 0 (fun _ => true) true Try.f12.params.toList args.toList ds p := hA0
  rw [Try.params12] at hA hval
  obtain ⟨v0, vs0, d0, ds0, p0, q0, hargs, rfl, rfl, h0, r0⟩ := trodAll_cons hA
  obtain ⟨v1, vs1, d1, ds1, p1, q1, rfl, rfl, rfl, h1, r1⟩ := trodAll_cons r0
  obtain ⟨v2, vs2, d2, ds2, p2, q2, rfl, rfl, rfl, h2, r2⟩ := trodAll_cons r1
  obtain ⟨rfl, rfl, rfl⟩ := trodAll_nil r2
  obtain rfl : args = #[v0, v1, v2] := by cases args; simp_all
  obtain ⟨rfl, rfl⟩ := trodVars_none hV
  clear hA0 hval0
  have lt0 : ∀ x ∈ p0, x.block < W.heap.size := by obtain ⟨m, hm⟩ := h0; exact DataW.trod_lt m _ _ _ hm
  obtain ⟨a0, e0, _, _, w0⟩ := open_int Try.underlying3 (hval 0 3 v0 rfl rfl) h0
  have b0 := bounds_i64 w0
  subst e0
  have lt1 : ∀ x ∈ p1, x.block < W.heap.size := by obtain ⟨m, hm⟩ := h1; exact DataW.trod_lt m _ _ _ hm
  obtain ⟨s1, e1, _, _, ws1⟩ := open_string Try.underlying9 (hval 1 9 v1 rfl rfl) h1
  subst e1
  have lt2 : ∀ x ∈ p2, x.block < W.heap.size := by obtain ⟨m, hm⟩ := h2; exact DataW.trod_lt m _ _ _ hm
  obtain ⟨l2, R2⟩ := arg_ints (hval 2 36 v2 rfl rfl) h2
  refine (diskNil_walk W a0 b0 s1 ws1 v2 l2 R2).mono fun e W' ⟨he, bel⟩ => ?_
  subst he
  exact ⟨_, rfl, _, _, _, [], _, [], hW', trodAll_mk1 (shut_bool Try.underlying4 _), (trodAll_cons_mk (Below.trod laid_out (by kernel_rfl) (of_decide_eq_true (by kernel_rfl)) h0 bel lt0) (trodAll_cons_mk (Below.trod laid_out (by kernel_rfl) (of_decide_eq_true (by kernel_rfl)) h1 bel lt1) (trodAll_cons_mk (Below.trod laid_out (by kernel_rfl) (of_decide_eq_true (by kernel_rfl)) h2 bel lt2) trodAll_mk0))), rfl, bel.frame _, fun h => by cases h⟩

theorem diskNil_holds : Rows.DiskNilSaid :=
  OpenClaim.holds_of_wide 12 Try.f12 rfl rfl rfl rfl rfl rfl rfl ⟨rfl, rfl, rfl, rfl, rfl⟩ rfl rfl rfl rfl rfl (by kernel_rfl) Try.func12 (by kernel_rfl)
    (of_decide_eq_true (by kernel_rfl)) (by unfold Func.isWrapper; first | (rw [if_pos (by decide +kernel)]; kernel_rfl) | (rw [if_neg (by decide +kernel)]; exact ⟨rfl, rfl⟩))
    (fun os started H enc _ => diskNil_lifted os started H enc)
#print axioms diskNil_holds
end Go.Proofs.Ytnfmcmjfpbmloaa
