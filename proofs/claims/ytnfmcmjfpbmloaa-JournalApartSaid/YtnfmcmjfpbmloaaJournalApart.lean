/-
  Proved: for every two lists of texts JournalApart returns true, and changes nothing that was there before the call. No conditions.
-/
import Derived.Test.YtnfmcmjfpbmloaaJrN
namespace Go.Proofs.Ytnfmcmjfpbmloaa
open Go.RowKit Go.ChangeShapes Go.WideShapes Go.ChangeAt
open Go.ChangeMaps (open_string shut_string)

set_option maxRecDepth 100000 in
set_option maxHeartbeats 8000000 in
theorem journalApart_walk (w : World) (v : Value) (l : List ByteArray) (hl : StrsIn w v l) (vm : Value) (m : List ByteArray) (hm : StrsIn w vm m) :
    Calls Try.prog 19 #[v, vm] w fun e w' => e = .returned (.bool true) ∧ Below w.heap.size w w' := by
  have hl0 := hl
  have hm0 := hm
  obtain ⟨⟨A0, c0, rfl, -, -⟩, -⟩ := hl
  obtain ⟨⟨B0, d0, rfl, -, -⟩, -⟩ := hm
  have Hl := Lib.hid hl0
  have Hm := Lib.hid hm0
  clear hl0 hm0
  go_enter Try.func19, Try.ntmps19
  go_wp2_with fail
  refine (sanity34_any _).mono ?_
  rintro e w1 ⟨rfl, hb⟩
  have HA4 := Lib.hid ((At.start w).keep (Turns.below (S := No) hb))
  clear hb
  go_wp2_with fail
  refine (at_new HA4.out).mono ?_
  rintro r w5 ⟨rfl, h5⟩
  have HA5 := Lib.hid h5
  clear h5 HA4
  generalize w1.heap.size = gd at *
  go_wp2_with fail
  refine (at_openJ HA5.out (by decide) rfl holds_nil).mono ?_
  rintro r w6 ⟨jb, A, c, σ1, rfl, HG1, HA6⟩
  clear HA5
  go_wp2_with fail
  go_loopw [10] (fun i wr => ∃ (k : Nat) (σ : DS) (e : Nat), k ≤ 10 ∧ k ≤ l.length ∧ i = .int .i64 (k : Int) ∧ Hid (GJ σ (recs l k) e ∧ σ.lim = false ∧ σ.n ≤ 4 * k + 5) ∧
    Hid (At w wr (jn jb gd (recs l k).length (bs (recs l k)) e false :: dk gd σ :: [sl (.slice A ([] : List (List UInt8)).length c) []]))) (fun i _ => 10 - (intOf i).toNat)
  case atStart => exact ⟨0, σ1, 64, by omega, by omega, rfl, ⟨HG1.out.1, HG1.out.2.1, by have := HG1.out.2.2; have : DS.new.n = 0 := rfl; show σ1.n ≤ _; omega⟩, HA6⟩
  case round =>
    obtain ⟨k, σ, e, hk5, hkl, rfl, HG, HA⟩ := hrel
    by_cases hlt : k < l.length ∧ k < 10
    · obtain ⟨hlt, hk40⟩ := hlt
      obtain ⟨s, hs⟩ : ∃ s, l[k]? = some s := ⟨_, List.getElem?_eq_getElem hlt⟩
      obtain ⟨b1, o1, hA, x0, hsz⟩ := strs_at HA.out Hl.out rfl k s hs
      subst hA
      have HS := Lib.hid (recs_succ l k s hs)
      clear hs
      have hlI : (k : Int) < (l.length : Int) := by omega
      have hkI : (k : Int) < 10 := by omega
      have hbk := bs_recs l k
      go_wp2_with fail
      refine (short_any _ s hsz).mono ?_
      rintro r w7 ⟨rfl, rfl⟩
      go_wp2_with fail
      refine (at_appendJ HA.out HG.out.1 HG.out.2.1 (sh s) (by have := HG.out.2.2; omega) (by have := sh_size s; omega)).mono ?_
      rintro r w8 ⟨σ', e', rfl, HG', HA'⟩
      rw [← HS.out] at HG' HA'
      have HG2 : Hid (GJ σ' (recs l (k + 1)) e' ∧ σ'.lim = false ∧ σ'.n ≤ 4 * (k + 1) + 5) := ⟨HG'.out.1, HG'.out.2.1, by have := HG'.out.2.2; have := HG.out.2.2; show σ'.n ≤ _; omega⟩
      clear HA HG HG' hbk
      go_wp2_with fail
      exact ⟨⟨k + 1, σ', e', by omega, by omega, by go_num, HG2, HA'⟩, by simp [intOf]; omega⟩
    · have hor : (¬ ((k : Int) < (l.length : Int)) ∧ k ≤ 10) ∨ ((k : Int) < (l.length : Int) ∧ ¬ ((k : Int) < 10)) := by omega
      have hmin : min (l.length : Int) 10 = (k : Int) := by omega
      have HLN := Lib.hid (recs_len l k hkl)
      have hlen : ((recs l k).length : Int) = (k : Int) := by rw [HLN.out]
      clear hlt
      rcases hor with ⟨h1, _⟩ | ⟨h1, h2⟩
      all_goals
        go_wp2_with fail
        refine (at_crash HA.out 1 rfl _ [] (reads_nil _)).mono ?_
        rintro r w7 ⟨rfl, h7⟩
        have HA7 := Lib.hid h7
        clear h7 HA
        generalize wr.heap.size = gc at *
        go_wp2_with fail
        refine (at_openJ HA7.out (show (0 : Nat) < _ by decide) rfl (HG.out.1.crash_holds [])).mono ?_
        rintro r w8 ⟨jb2, A2, c2, σ2, rfl, HG2, HA8⟩
        clear HA7
        rw [HLN.out]
        rw [HLN.out] at HA8
        go_wp2_with fail
        go_loopw [15] (fun i wr => ∃ (j : Nat) (σ' : DS) (e' : Nat), j ≤ 10 ∧ j ≤ m.length ∧ i = .int .i64 (j : Int) ∧ Hid (GJ σ' (recs l k ++ recs m j) e' ∧ σ'.lim = false ∧ σ'.n ≤ 4 * j + 5) ∧
          Hid (At w wr (jn jb2 gc (recs l k ++ recs m j).length (bs (recs l k ++ recs m j)) e' false :: dk gc σ' :: [sl (.slice A2 k c2) (recs l k), jn jb gd (k : Int) (bs (recs l k)) e false, dk gd σ, sl (.slice A ([] : List (List UInt8)).length c) []]))) (fun i _ => 10 - (intOf i).toNat)
        case atStart =>
          refine ⟨0, σ2, e, by omega, by omega, rfl, ?_, ?_⟩
          · have h0 : recs l k ++ recs m 0 = recs l k := by simp [recs]
            rw [h0]
            exact ⟨HG2.out.1, HG2.out.2.1.trans rfl, by have := HG2.out.2.2; show σ2.n ≤ _; have h0 : (σ.crash []).n = 0 := rfl; omega⟩
          · have h0 : recs l k ++ recs m 0 = recs l k := by simp [recs]
            rw [h0, HLN.out]
            exact HA8
        case round =>
          obtain ⟨j, σ', e', hj5, hjl, rfl, HG', HA'⟩ := hrel
          have hbl := bs_recs l k
          have hbm := bs_recs m j
          by_cases hlt : j < m.length ∧ j < 10
          · obtain ⟨hlt, hk40⟩ := hlt
            obtain ⟨s, hs⟩ : ∃ s, m[j]? = some s := ⟨_, List.getElem?_eq_getElem hlt⟩
            obtain ⟨b1, o1, hA, x0, hsz⟩ := strs_at HA'.out Hm.out rfl j s hs
            subst hA
            have HS := Lib.hid (show recs l k ++ recs m (j + 1) = recs l k ++ recs m j ++ [(sh s).data.toList] by rw [recs_succ m j s hs, List.append_assoc])
            clear hs
            have hlI : (j : Int) < (m.length : Int) := by omega
            have hkI : (j : Int) < 10 := by omega
            go_wp2_with fail
            refine (short_any _ s hsz).mono ?_
            rintro r w9 ⟨rfl, rfl⟩
            go_wp2_with fail
            refine (at_appendJ HA'.out HG'.out.1 HG'.out.2.1 (sh s) (by have := HG'.out.2.2; omega) (by have := sh_size s; rw [bs_append]; omega)).mono ?_
            rintro r w10 ⟨σ3, e3, rfl, HG3, HA3⟩
            rw [← HS.out] at HG3 HA3
            have HG4 : Hid (GJ σ3 (recs l k ++ recs m (j + 1)) e3 ∧ σ3.lim = false ∧ σ3.n ≤ 4 * (j + 1) + 5) := ⟨HG3.out.1, HG3.out.2.1, by have := HG3.out.2.2; have := HG'.out.2.2; show σ3.n ≤ _; omega⟩
            clear HA' HG' HG3 hbl hbm
            go_wp2_with fail
            exact ⟨⟨j + 1, σ3, e3, by omega, by omega, by go_num, HG4, HA3⟩, by simp [intOf]; omega⟩
          · have hor : (¬ ((j : Int) < (m.length : Int)) ∧ j ≤ 10) ∨ ((j : Int) < (m.length : Int) ∧ ¬ ((j : Int) < 10)) := by omega
            have hminm : min (m.length : Int) 10 = (j : Int) := by omega
            have HLM := Lib.hid (show (recs l k ++ recs m j).length = k + j by rw [List.length_append, HLN.out, recs_len m j hjl])
            have hmk : min (k : Int) ((k : Int) + (j : Int)) = (k : Int) := by omega
            have hkj : k ≤ k + j := by omega
            have HTK := Lib.hid (show (recs l k ++ recs m j).take k = recs l k from List.take_left' HLN.out)
            clear hlt hbl hbm
            rcases hor with ⟨h3, _⟩ | ⟨h3, h4⟩
            all_goals
              go_wp2_with fail
              refine (at_openJ (HA'.out.front 4 rfl) (show σ.n < 100000 by have := HG.out.2.2; omega) (DS.off_of HG.out.2.1) HG.out.1.holds).mono ?_
              rintro r w11 ⟨jb3, A3, c3, σ4, rfl, HG4, HA11⟩
              rw [HLN.out]
              rw [HLN.out] at HA11
              go_wp2_with fail
              refine (at_openJ (HA11.out.front 4 rfl) (show σ'.n < 100000 by have := HG'.out.2.2; omega) (DS.off_of HG'.out.2.1) HG'.out.1.holds).mono ?_
              rintro r w12 ⟨jb4, A4, c4, σ5, rfl, HG5, HA12⟩
              rw [HLM.out]
              rw [HLM.out] at HA12
              have hcap := HA12.out.cap 2 rfl
              have hcapI : (k : Int) ≤ (c4 : Int) := by omega
              go_wp2_with fail
              refine (at_same HA12.out (a := recs l k) (b := (recs l k ++ recs m j).take k) (by have := HA12.out.list 5 rfl; exact this) (by have := Reads.head (n := k + j) (by have := HA12.out.list 2 rfl; rw [HLM.out] at this; exact this) k (by omega) HLM.out; exact this) (by rw [HLN.out]; omega) (by rw [HTK.out, HLN.out]; omega)).mono ?_
              rintro r w13 ⟨rfl, h13⟩
              have HA13 := Lib.hid h13
              clear h13
              rw [decide_eq_true HTK.out.symm]
              go_wp2_with fail
              go_ret
              exact ⟨rfl, HA13.out.below⟩

set_option maxRecDepth 100000 in
theorem journalApart_lifted (os : Os) (started : os.Started) (H : Type) (enc : TypeId × Value → H) :
    ReturnsInHanded {} Try.checked os 19 .any (Rows.journalApartSpec.pre6 enc Try.prog Try.f19 Rows.journalApartRow.domain false) (Rows.journalApartSpec.post enc Try.prog Try.f19 false true false false) := by
  refine returnsInHanded_of_change (C := Try.checked) own_knob started (by kernel_rfl) Try.func19
    (ChangeSpec.witness6 (enc := enc) (C := Try.checked) false ⟨#[], #[.slice none 0 0, .slice none 0 0], []⟩ 8 (by kernel_rfl) (by kernel_rfl) (by kernel_rfl) (by kernel_rfl)) ?_
  intro W base args ds gs before hval0 hW hcnd _
  have hval : ∀ (j : Nat) t v, Try.f19.params[j]? = some t → args[j]? = some v → Value.okWide Try.prog W .any base t v := hval0
  have hW' := hW
  obtain ⟨p, q, hA0, hV, rfl, hfz, hnd⟩ := hW
  have hA : DataW.TrodAll enc Try.prog W 0 (fun _ => true) true Try.f19.params.toList args.toList ds p := hA0
  rw [Try.params19] at hA hval
  obtain ⟨v0, vs0, d0, ds0, p0, q0, hargs, rfl, rfl, h0, r0⟩ := trodAll_cons hA
  obtain ⟨v1, vs1, d1, ds1, p1, q1, rfl, rfl, rfl, h1, r1⟩ := trodAll_cons r0
  obtain ⟨rfl, rfl, rfl⟩ := trodAll_nil r1
  obtain rfl : args = #[v0, v1] := by cases args; simp_all
  obtain ⟨rfl, rfl⟩ := trodVars_none hV
  clear hA0 hval0
  have lt0 : ∀ x ∈ p0, x.block < W.heap.size := by obtain ⟨m, hm⟩ := h0; exact DataW.trod_lt m _ _ _ hm
  obtain ⟨l0, R0⟩ := arg_strs (hval 0 64 v0 rfl rfl) h0
  have lt1 : ∀ x ∈ p1, x.block < W.heap.size := by obtain ⟨m, hm⟩ := h1; exact DataW.trod_lt m _ _ _ hm
  obtain ⟨l1, R1⟩ := arg_strs (hval 1 64 v1 rfl rfl) h1
  refine (journalApart_walk W v0 l0 R0 v1 l1 R1).mono fun e W' ⟨he, bel⟩ => ?_
  subst he
  exact ⟨_, rfl, _, _, _, [], _, [], hW', trodAll_mk1 (shut_bool Try.underlying4 _), (trodAll_cons_mk (Below.trod laid_out (by kernel_rfl) (of_decide_eq_true (by kernel_rfl)) h0 bel lt0) (trodAll_cons_mk (Below.trod laid_out (by kernel_rfl) (of_decide_eq_true (by kernel_rfl)) h1 bel lt1) trodAll_mk0)), rfl, bel.frame _, fun h => by cases h⟩

theorem journalApart_holds : Rows.JournalApartSaid :=
  OpenClaim.holds_of_wide 19 Try.f19 rfl rfl rfl rfl rfl rfl rfl ⟨rfl, rfl, rfl, rfl, rfl⟩ rfl rfl rfl rfl rfl (by kernel_rfl) Try.func19 (by kernel_rfl)
    (of_decide_eq_true (by kernel_rfl)) (by unfold Func.isWrapper; first | (rw [if_pos (by decide +kernel)]; kernel_rfl) | (rw [if_neg (by decide +kernel)]; exact ⟨rfl, rfl⟩))
    (fun os started H enc _ => journalApart_lifted os started H enc)
#print axioms journalApart_holds
end Go.Proofs.Ytnfmcmjfpbmloaa
