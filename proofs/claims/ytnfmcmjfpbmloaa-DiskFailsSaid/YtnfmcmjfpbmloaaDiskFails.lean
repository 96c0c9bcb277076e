/-
  Proved: for every three numbers DiskFails returns true, and changes nothing that was there before the call. No conditions.
-/
import Derived.Test.YtnfmcmjfpbmloaaDkK
import Derived.Laws.ShiftsVarLaws
import Derived.Test.YtnfmcmjfpbmloaaRows
import Derived.ProofKit
import Derived.OpenShut
import Derived.ShutString
import Derived.ChangeOld
namespace Go.Proofs.Ytnfmcmjfpbmloaa
open Go.RowKit Go.ChangeShapes Go.WideShapes Go.ChangeAt

/-- The state of DiskFails' disk before call number k. -/
structure FI (many k : Nat) (σ : DS) : Prop where
  n : σ.n = min k many
  lim : σ.lim = true
  left : σ.left = many - k
  size : σ.now.length ≤ min k many

theorem FI.off {many k : Nat} {σ : DS} (h : FI many k σ) : σ.off = decide (many ≤ k) := by
  unfold DS.off
  rw [h.lim, h.left, Bool.true_and, Bool.eq_iff_iff]
  simp
  omega
theorem FI.syncE {many k : Nat} {σ : DS} (h : FI many k σ) : σ.syncE = if many ≤ k then 70 else 0 := by
  unfold DS.syncE
  rw [h.off]
  simp
theorem FI.writeE {many k : Nat} {σ : DS} (h : FI many k σ) (hk : k ≤ 1000) : σ.writeE k [122] = if many ≤ k then 70 else 0 := by
  unfold DS.writeE
  rw [if_neg (by simp; omega), h.off]
  simp
theorem FI.sync {many k : Nat} {σ : DS} (h : FI many k σ) : FI many (k + 1) σ.sync := by
  unfold DS.sync
  rw [h.off]
  by_cases hk : many ≤ k
  · rw [if_pos (by simpa using hk)]
    exact ⟨by rw [h.n]; omega, h.lim, by rw [h.left]; omega, by have := h.size; omega⟩
  · rw [if_neg (by simpa using hk)]
    exact ⟨by show σ.n + 1 = _; rw [h.n]; omega, h.lim, by show σ.left - 1 = _; rw [h.left]; omega, by show σ.now.length ≤ _; have := h.size; omega⟩
theorem FI.write {many k : Nat} {σ : DS} (h : FI many k σ) (hk0 : k ≤ 1000) : FI many (k + 1) (σ.write k [122]) := by
  unfold DS.write
  rw [if_neg (by simp; omega), h.off]
  by_cases hk : many ≤ k
  · rw [if_pos (by simpa using hk)]
    exact ⟨by rw [h.n]; omega, h.lim, by rw [h.left]; omega, by have := h.size; omega⟩
  · rw [if_neg (by simpa using hk)]
    refine ⟨by show σ.n + 1 = _; rw [h.n]; omega, h.lim, by show σ.left - 1 = _; rw [h.left]; omega, ?_⟩
    show (lay _ _ _).length ≤ _
    rw [length_lay]
    have := h.size
    simp
    omega

set_option maxRecDepth 100000 in
set_option maxHeartbeats 1000000 in
theorem diskFails_walk (a0 a1 a2 : Int) (h0 : 0 ≤ a0) (h0' : a0 < 256) (_h1 : 0 ≤ a1) (_h1' : a1 < 4294967296) (h2 : 0 ≤ a2) (h2' : a2 < 256) (w : World) :
    Calls Try.prog 7 #[.int .u8 a0, .int .u32 a1, .int .u8 a2] w fun e w' => e = .returned (.bool true) ∧ Below w.heap.size w w' := by
  obtain ⟨many, hmany⟩ : ∃ m : Nat, a0 % 30 = (m : Int) := ⟨(a0 % 30).toNat, by omega⟩
  obtain ⟨more, hmore⟩ : ∃ m : Nat, a2 % 5 = (m : Int) := ⟨(a2 % 5).toNat, by omega⟩
  have m1 : many < 30 := by omega
  have m2 : more < 5 := by omega
  go_enter Try.func7, Try.ntmps7
  go_wp2_with fail
  refine (sanity_any w).mono ?_
  rintro e w1 ⟨rfl, hb⟩
  have HA1 : Hid (At w w1 []) := (At.start w).keep (Turns.below hb)
  clear hb
  go_wp2_with fail
  refine (at_new HA1.out).mono ?_
  rintro e w2 ⟨rfl, h⟩
  have HA2 := Lib.hid h
  clear h HA1
  go_wp2_with fail
  refine (at_fail HA2.out 0 rfl (many : Int) (by omega)).mono ?_
  rintro e w3 ⟨rfl, h⟩
  have HA3 : Hid (At w w3 [dk w1.heap.size (DS.new.fail many)]) := h
  clear h HA2
  have HF3 : Hid (FI many 0 (DS.new.fail many)) := ⟨by simp [DS.fail, DS.new], by simp [DS.fail], by simp [DS.fail], by simp [DS.fail, DS.new]⟩
  go_wp2_with fail
  go_loopw [10] (fun i wr => ∃ (k : Nat) (σ : DS), k ≤ many + more + 1 ∧ i = .int .i64 (k : Int) ∧ Hid (At w wr [dk w1.heap.size σ]) ∧ Hid (FI many k σ)) (fun i _ => many + more + 1 - (intOf i).toNat)
  case atStart => exact ⟨0, _, by omega, rfl, HA3, HF3⟩
  case round =>
    obtain ⟨k, σ, hk, rfl, HA, HF⟩ := hrel
    by_cases hlt : k < many + more + 1
    · have hl1 : (k : Int) < (many : Int) + more + 1 := by omega
      have hn : σ.n < 100000 := by have := HF.out.n; omega
      have HF1 := Lib.hid HF.out.sync
      have HF2 := Lib.hid (HF.out.write (by omega))
      by_cases hmk : many ≤ k
      · have E1 := Lib.hid (show σ.syncE = 70 by rw [HF.out.syncE, if_pos hmk])
        have E2 := Lib.hid (show σ.writeE k [122] = 70 by rw [HF.out.writeE (by omega), if_pos hmk])
        go_wp2_with (first
          | (go_at_call 35; refine (at_sync_c HA.out 0 rfl hn 70 E1.out _ rfl).mono ?_; rintro e w4 ⟨rfl, h4⟩; have HA4 := Lib.hid h4; clear h4)
          | (go_at_call 34; refine (at_write_c HA.out 0 rfl hn _ _ 70 E2.out _ rfl).mono ?_; rintro e w4 ⟨rfl, h4⟩; have HA4 := Lib.hid h4; clear h4))
        · exact ⟨⟨k + 1, _, by omega, by go_num, HA4, HF1⟩, by simp [intOf]; omega⟩
        · exact ⟨⟨k + 1, _, by omega, by go_num, HA4, HF2⟩, by simp [intOf]; omega⟩
      · have E1 := Lib.hid (show σ.syncE = 0 by rw [HF.out.syncE, if_neg hmk])
        have E2 := Lib.hid (show σ.writeE k [122] = 0 by rw [HF.out.writeE (by omega), if_neg hmk])
        go_wp2_with (first
          | (go_at_call 35; refine (at_sync_c HA.out 0 rfl hn 0 E1.out _ rfl).mono ?_; rintro e w4 ⟨rfl, h4⟩; have HA4 := Lib.hid h4; clear h4)
          | (go_at_call 34; refine (at_write_c HA.out 0 rfl hn _ _ 0 E2.out _ rfl).mono ?_; rintro e w4 ⟨rfl, h4⟩; have HA4 := Lib.hid h4; clear h4))
        · exact ⟨⟨k + 1, _, by omega, by go_num, HA4, HF1⟩, by simp [intOf]; omega⟩
        · exact ⟨⟨k + 1, _, by omega, by go_num, HA4, HF2⟩, by simp [intOf]; omega⟩
    · have hl1 : ¬ (k : Int) < (many : Int) + more + 1 := by omega
      have hn : σ.n = many := by have := HF.out.n; omega
      have hsz : σ.now.length ≤ many := by have := HF.out.size; omega
      have e1 := Lib.hid (show (σ.n : Int) = many by rw [hn])
      have e3 := Lib.hid (show (σ.fail (-1)).writeE 0 [97, 103, 97, 105, 110] = 0 by simp [DS.writeE, DS.off, DS.fail])
      have e4 := Lib.hid (show (((σ.fail (-1)).write 0 [97, 103, 97, 105, 110]).n : Int) = many + 1 by simp [DS.write, DS.off, DS.fail, DS.tick, hn])
      have Hn := Lib.hid hn
      clear hn
      have hszI : (σ.now.length : Int) ≤ many := by omega
      go_wp2_with fail
      refine (at_calls_c HA.out 0 rfl many e1.out).mono ?_
      rintro e w5 ⟨rfl, rfl⟩
      go_wp2_with fail
      refine (at_size HA.out 0 rfl).mono ?_
      rintro e w5 ⟨rfl, rfl⟩
      go_wp2_with fail
      refine (at_fail HA.out 0 rfl (-1) (by omega)).mono ?_
      rintro e w6 ⟨rfl, h⟩
      have HA6 := Lib.hid h
      clear h HA
      go_wp2_with fail
      refine (at_write_c HA6.out 0 rfl (by have := Hn.out; show σ.n < _; omega) _ _ 0 e3.out _ rfl).mono ?_
      rintro e w7 ⟨rfl, h⟩
      have HA7 := Lib.hid h
      clear h HA6
      go_wp2_with fail
      refine (at_calls_c HA7.out 0 rfl (many + 1) e4.out).mono ?_
      rintro e w8 ⟨rfl, rfl⟩
      go_wp2_with fail
      go_ret
      exact ⟨rfl, HA7.out.below⟩

theorem own_knob : ownKnob Try.prog.godebug = none := by kernel_rfl

set_option maxRecDepth 100000 in
theorem diskFails_lifted (os : Os) (started : os.Started) (H : Type) (enc : TypeId × Value → H) :
    ReturnsInHanded {} Try.checked os 7 .any (Rows.diskFailsSpec.pre6 enc Try.prog Try.f7 Rows.diskFailsRow.domain false) (Rows.diskFailsSpec.post enc Try.prog Try.f7 false true false false) := by
  refine returnsInHanded_of_change (C := Try.checked) own_knob started (by kernel_rfl) Try.func7
    (ChangeSpec.witness6 (enc := enc) (C := Try.checked) false ⟨#[], #[.int .u8 0, .int .u32 0, .int .u8 0], []⟩ 8 (by kernel_rfl) (by kernel_rfl) (by kernel_rfl) (by kernel_rfl)) ?_
  intro W base args ds gs before hval0 hW hcnd _
  have hval : ∀ (j : Nat) t v, Try.f7.params[j]? = some t → args[j]? = some v → Value.okWide Try.prog W .any base t v := hval0
  have hW' := hW
  obtain ⟨p, q, hA0, hV, rfl, hfz, hnd⟩ := hW
  have hA : DataW.TrodAll enc Try.prog W 0 (fun _ => true) true Try.f7.params.toList args.toList ds p := hA0
  rw [Try.params7] at hA hval
  obtain ⟨v0, vs0, d0, ds0, p0, q0, hargs, rfl, rfl, h0, r0⟩ := trodAll_cons hA
  obtain ⟨v1, vs1, d1, ds1, p1, q1, rfl, rfl, rfl, h1, r1⟩ := trodAll_cons r0
  obtain ⟨v2, vs2, d2, ds2, p2, q2, rfl, rfl, rfl, h2, r2⟩ := trodAll_cons r1
  obtain ⟨rfl, rfl, rfl⟩ := trodAll_nil r2
  obtain rfl : args = #[v0, v1, v2] := by cases args; simp_all
  obtain ⟨rfl, rfl⟩ := trodVars_none hV
  obtain ⟨a0, rfl, rfl, rfl, w0⟩ := open_int Try.underlying5 (hval 0 5 v0 rfl rfl) h0
  obtain ⟨a1, rfl, rfl, rfl, w1⟩ := open_int Try.underlying50 (hval 1 50 v1 rfl rfl) h1
  obtain ⟨a2, rfl, rfl, rfl, w2⟩ := open_int Try.underlying5 (hval 2 5 v2 rfl rfl) h2
  clear hA0 hval0
  have b0 := bounds_u8 w0
  have b1 := bounds_u32 w1
  have b2 := bounds_u8 w2
  refine (diskFails_walk a0 a1 a2 (by omega) (by omega) (by omega) (by omega) (by omega) (by omega) W).mono fun e W' ⟨he, bel⟩ => ?_
  subst he
  exact ⟨_, rfl, _, _, _, [], _, [], hW', trodAll_mk1 (shut_bool Try.underlying4 _), (trodAll_cons_mk (shut_int Try.underlying5 w0) (trodAll_cons_mk (shut_int Try.underlying50 w1) (trodAll_cons_mk (shut_int Try.underlying5 w2) trodAll_mk0))), rfl, bel.frame _, fun h => by cases h⟩

theorem diskFails_holds : Rows.DiskFailsSaid :=
  OpenClaim.holds_of_wide 7 Try.f7 rfl rfl rfl rfl rfl rfl rfl ⟨rfl, rfl, rfl, rfl, rfl⟩ rfl rfl rfl rfl rfl (by kernel_rfl) Try.func7 (by kernel_rfl)
    (of_decide_eq_true (by kernel_rfl)) (by unfold Func.isWrapper; first | (rw [if_pos (by decide +kernel)]; kernel_rfl) | (rw [if_neg (by decide +kernel)]; exact ⟨rfl, rfl⟩))
    (fun os started H enc _ => diskFails_lifted os started H enc)
#print axioms diskFails_holds
end Go.Proofs.Ytnfmcmjfpbmloaa
