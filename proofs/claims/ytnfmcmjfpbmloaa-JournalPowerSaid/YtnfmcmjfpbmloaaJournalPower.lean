/-
  Proved: for every list of texts JournalPower returns true, and changes nothing that was there before the call. No conditions.
-/
import Derived.Test.YtnfmcmjfpbmloaaJrM
namespace Go.Proofs.Ytnfmcmjfpbmloaa
open Go.RowKit Go.ChangeShapes Go.WideShapes Go.ChangeAt
open Go.ChangeMaps (open_string shut_string)

set_option maxRecDepth 100000 in
set_option maxHeartbeats 4000000 in
theorem journalPower_walk (w : World) (v : Value) (l : List ByteArray) (hl : StrsIn w v l) :
    Calls Try.prog 17 #[v] w fun e w' => e = .returned (.bool true) ∧ Below w.heap.size w w' := by
  have hl0 := hl
  obtain ⟨⟨A0, c0, rfl, -, -⟩, -⟩ := hl
  have Hl := Lib.hid hl0
  clear hl0
  go_enter Try.func17, Try.ntmps17
  go_wp2_with fail
  refine (sanity34_any _).mono ?_
  rintro e w1 ⟨rfl, hb⟩
  have HA1 := Lib.hid ((At.start w).keep (Turns.below (S := No) hb))
  clear hb
  go_wp2_with fail
  refine (open_nil HA1.out).mono ?_
  rintro r w2 ⟨rfl, h2⟩
  have HA2 := Lib.hid (at_alloc h2 82 #[.pointer none, .int .i64 0, .int .i64 0, .int .i64 0, .bool false])
  clear h2 HA1
  obtain ⟨gz, hgz⟩ : ∃ gz, w2.heap.size = gz := ⟨_, rfl⟩
  rw [hgz] at HA2
  go_wp2_with fail
  refine (append_nil _ _).mono ?_
  rintro r w3 ⟨rfl, hb3⟩
  have HA3 := Lib.hid (HA2.out.keep (Turns.below (S := No) hb3))
  clear hb3 HA2
  go_wp2_with fail
  refine (append_zero HA3.out _).mono ?_
  rintro r w4 ⟨rfl, h4⟩
  have HA4 := Lib.hid h4
  clear h4 HA3
  go_wp2_with fail
  refine (many_nil _).mono ?_
  rintro r w4' ⟨rfl, rfl⟩
  go_wp2_with fail
  refine (many_cell _ gz 0 (HA4.out.cell 0 rfl 1 _ rfl)).mono ?_
  rintro r w4' ⟨rfl, rfl⟩
  go_wp2_with fail
  refine (at_new HA4.out).mono ?_
  rintro r w5 ⟨rfl, h5⟩
  have HA5 := Lib.hid h5
  clear h5 HA4 hgz
  generalize w4.heap.size = gd at *
  go_wp2_with fail
  refine (at_openJ HA5.out (by decide) rfl holds_nil).mono ?_
  rintro r w6 ⟨jb, A, c, σ1, rfl, HG1, HA6⟩
  clear HA5
  go_wp2_with fail
  go_loopw [13] (fun i wr => ∃ (k : Nat) (σ : DS) (e : Nat), k ≤ 5 ∧ k ≤ l.length ∧ i = .int .i64 (k : Int) ∧ Hid (GJ σ (recs l k) e ∧ σ.lim = false ∧ σ.n ≤ 4 * k + 5) ∧
    Hid (At w wr (jn jb gd (recs l k).length (bs (recs l k)) e false :: dk gd σ :: [sl (.slice A ([] : List (List UInt8)).length c) [], bl gz 82 #[.pointer none, .int .i64 0, .int .i64 0, .int .i64 0, .bool false]]))) (fun i _ => 5 - (intOf i).toNat)
  case atStart => exact ⟨0, σ1, 64, by omega, by omega, rfl, ⟨HG1.out.1, HG1.out.2.1, by have := HG1.out.2.2; have : DS.new.n = 0 := rfl; show σ1.n ≤ _; omega⟩, HA6⟩
  case round =>
    obtain ⟨k, σ, e, hk5, hkl, rfl, HG, HA⟩ := hrel
    by_cases hlt : k < l.length ∧ k < 5
    · obtain ⟨hlt, hk40⟩ := hlt
      obtain ⟨s, hs⟩ : ∃ s, l[k]? = some s := ⟨_, List.getElem?_eq_getElem hlt⟩
      obtain ⟨b1, o1, hA, x0, hsz⟩ := strs_at HA.out Hl.out rfl k s hs
      subst hA
      have HS := Lib.hid (recs_succ l k s hs)
      clear hs
      have hlI : (k : Int) < (l.length : Int) := by omega
      have hkI : (k : Int) < 5 := by omega
      have hbk := bs_recs l k
      go_wp2_with fail
      refine (short_any _ s hsz).mono ?_
      rintro r w7 ⟨rfl, rfl⟩
      go_wp2_with fail
      refine (at_appendJ HA.out HG.out.1 HG.out.2.1 (sh s) (by have := HG.out.2.2; omega) (by have := sh_size s; omega)).mono ?_
      rintro r w8 ⟨σ', e', rfl, HG', HA'⟩
      rw [← HS.out] at HG' HA'
      have HG2 : Hid (GJ σ' (recs l (k + 1)) e' ∧ σ'.lim = false ∧ σ'.n ≤ 4 * (k + 1) + 5) := ⟨HG'.out.1, HG'.out.2.1, by have := HG'.out.2.2; have := HG.out.2.2; show σ'.n ≤ _; omega⟩
      clear HA HG HG' hbk
      go_wp2_with fail
      exact ⟨⟨k + 1, σ', e', by omega, by omega, by go_num, HG2, HA'⟩, by simp [intOf]; omega⟩
    · have hor : (¬ ((k : Int) < (l.length : Int)) ∧ k ≤ 5) ∨ ((k : Int) < (l.length : Int) ∧ ¬ ((k : Int) < 5)) := by omega
      have hmin : min (l.length : Int) 5 = (k : Int) := by omega
      have hlen : ((recs l k).length : Int) = (k : Int) := by rw [recs_len l k hkl]
      clear hlt
      rcases hor with ⟨h1, _⟩ | ⟨h1, h2⟩
      all_goals
        go_wp2_with fail
        refine (at_fail HA.out 1 rfl 0 (by decide)).mono ?_
        rintro r w7 ⟨rfl, h7⟩
        have HA7 := Lib.hid (h7.perm (.swap _ _ _))
        clear h7 HA
        go_wp2_with fail
        refine (open_off HA7.out (show σ.n < 100000 by have := HG.out.2.2; omega) rfl).mono ?_
        rintro r w8 ⟨rfl, h8⟩
        have HA8 := Lib.hid h8
        clear h8 HA7
        go_wp2_with fail
        refine (at_fail HA8.out 0 rfl (-1) (by decide)).mono ?_
        rintro r w9 ⟨rfl, h9⟩
        have HA9 := Lib.hid h9
        clear h9 HA8
        go_wp2_with fail
        refine (at_openJ HA9.out (show σ.n < 100000 by have := HG.out.2.2; omega) rfl (show Holds σ.now (recs l k) e from HG.out.1.holds)).mono ?_
        rintro r w10 ⟨jb2, A2, c2, σ2, rfl, HG2, HA10⟩
        clear HA9
        go_wp2_with fail
        go_ret
        exact ⟨rfl, HA10.out.below⟩

set_option maxRecDepth 100000 in
theorem journalPower_lifted (os : Os) (started : os.Started) (H : Type) (enc : TypeId × Value → H) :
    ReturnsInHanded {} Try.checked os 17 .any (Rows.journalPowerSpec.pre6 enc Try.prog Try.f17 Rows.journalPowerRow.domain false) (Rows.journalPowerSpec.post enc Try.prog Try.f17 false true false false) := by
  refine returnsInHanded_of_change (C := Try.checked) own_knob started (by kernel_rfl) Try.func17
    (ChangeSpec.witness6 (enc := enc) (C := Try.checked) false ⟨#[], #[.slice none 0 0], []⟩ 8 (by kernel_rfl) (by kernel_rfl) (by kernel_rfl) (by kernel_rfl)) ?_
  intro W base args ds gs before hval0 hW hcnd _
  have hval : ∀ (j : Nat) t v, Try.f17.params[j]? = some t → args[j]? = some v → Value.okWide Try.prog W .any base t v := hval0
  have hW' := hW
  obtain ⟨p, q, hA0, hV, rfl, hfz, hnd⟩ := hW
  have hA : DataW.TrodAll enc Try.prog W 0 (fun _ => true) true Try.f17.params.toList args.toList ds p := hA0
  rw [Try.params17] at hA hval
  obtain ⟨v0, vs0, d0, ds0, p0, q0, hargs, rfl, rfl, h0, r0⟩ := trodAll_cons hA
  obtain ⟨rfl, rfl, rfl⟩ := trodAll_nil r0
  obtain rfl : args = #[v0] := by cases args; simp_all
  obtain ⟨rfl, rfl⟩ := trodVars_none hV
  clear hA0 hval0
  have lt0 : ∀ x ∈ p0, x.block < W.heap.size := by obtain ⟨m, hm⟩ := h0; exact DataW.trod_lt m _ _ _ hm
  obtain ⟨l0, R0⟩ := arg_strs (hval 0 64 v0 rfl rfl) h0
  refine (journalPower_walk W v0 l0 R0).mono fun e W' ⟨he, bel⟩ => ?_
  subst he
  exact ⟨_, rfl, _, _, _, [], _, [], hW', trodAll_mk1 (shut_bool Try.underlying4 _), (trodAll_cons_mk (Below.trod laid_out (by kernel_rfl) (of_decide_eq_true (by kernel_rfl)) h0 bel lt0) trodAll_mk0), rfl, bel.frame _, fun h => by cases h⟩

theorem journalPower_holds : Rows.JournalPowerSaid :=
  OpenClaim.holds_of_wide 17 Try.f17 rfl rfl rfl rfl rfl rfl rfl ⟨rfl, rfl, rfl, rfl, rfl⟩ rfl rfl rfl rfl rfl (by kernel_rfl) Try.func17 (by kernel_rfl)
    (of_decide_eq_true (by kernel_rfl)) (by unfold Func.isWrapper; first | (rw [if_pos (by decide +kernel)]; kernel_rfl) | (rw [if_neg (by decide +kernel)]; exact ⟨rfl, rfl⟩))
    (fun os started H enc _ => journalPower_lifted os started H enc)
#print axioms journalPower_holds
end Go.Proofs.Ytnfmcmjfpbmloaa
