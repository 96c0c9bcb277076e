/-
  Proved: for all records, every number and all survivors JournalSame returns true, and changes nothing that was there before the call. No conditions.
-/
import Derived.Test.YtnfmcmjfpbmloaaJrQ
namespace Go.Proofs.Ytnfmcmjfpbmloaa
open Go.RowKit Go.ChangeShapes Go.WideShapes Go.ChangeAt
open Go.ChangeMaps (open_string shut_string)

theorem SameAt.fin {w wr : World} {l : List ByteArray} {jb gd gm k : Nat} (h : SameAt w wr l jb gd gm k) (hk : k ≤ 10) : Calls Try.prog 37 #[.pointer (some ⟨gd, 0, none⟩), .int .i64 (-1)] wr fun r w' => r = .returned (.tuple #[]) ∧
    ∃ (σ : DS) (vL vM : Value) (L mb got : List (List UInt8)) (br : Bool) (m b x y : Int) (e : Nat) (bj : Bool), Hid (σ.lim = false ∧ σ.n ≤ 100 ∧ Holds σ.now got e ∧ got.length ≤ 20 ∧ L.length ≤ 20 ∧ bs got ≤ 100000 ∧ (got = L ∨ ∃ r0, got = L ++ [r0] ∧ mb = [] ++ [r0] ∧ br = true ∧ mb.length ≤ 1000)) ∧ Hid (At w w' (jn jb gd m b x bj :: dk gd σ :: rjL gm vL vM L mb br y [])) := by
  have hb10 : ∀ i, i ≤ 10 → bs (recs l i) ≤ 2160 := fun i hi => by have := bs_recs l i; omega
  have hlen10 : ∀ i, i ≤ 10 → (recs l i).length ≤ 10 := fun i hi => by unfold recs; simp; omega
  obtain ⟨σ, vL, vM, hσ, ⟨e, hG, hA⟩ | ⟨j, e, e2, r0, m, b, x, h1, h2, h3, h4, hA⟩⟩ := h
  · refine (at_fail hA 1 rfl (-1) (by decide)).mono ?_
    rintro r w' ⟨rfl, h⟩
    have h5 := hb10 k hk
    have h6 := hlen10 k hk
    exact ⟨rfl, σ.fail (-1), vL, vM, recs l k, [], recs l k, false, _, _, _, _, e, false, ⟨rfl, by show σ.n ≤ _; omega, hG.holds, by omega, by omega, by omega, .inl rfl⟩, h⟩
  · refine (at_fail hA 1 rfl (-1) (by decide)).mono ?_
    rintro r w' ⟨rfl, h⟩
    have h5 := hb10 j h1
    rcases h4 with h4 | h4
    · exact ⟨rfl, σ.fail (-1), vL, vM, recs l j, [r0], recs l j, true, _, _, _, _, e, true, ⟨rfl, by show σ.n ≤ _; omega, h4, by omega, by omega, by omega, .inl rfl⟩, h⟩
    · exact ⟨rfl, σ.fail (-1), vL, vM, recs l j, [r0], recs l j ++ [r0], true, _, _, _, _, e2, true, ⟨rfl, by show σ.n ≤ _; omega, h4, by simp; omega, by omega, by rw [bs_append]; simp [bs]; omega, .inr ⟨r0, rfl, rfl, rfl, by simp⟩⟩, h⟩

theorem opens_any {w0 w : World} {L0 : List HP} {gm : Nat} {L mb got : List (List UInt8)} {y : Int} {br : Bool} {v : Value} (h : RJ w0 w gm L mb br y L0) (i : Nat) (hi : L0[i]? = some (sl v got)) (h1 : got.length ≤ 20) (h2 : L.length ≤ 20) (h3 : bs got ≤ 100000) (h4 : got = L ∨ ∃ r0, got = L ++ [r0] ∧ mb = [] ++ [r0] ∧ br = true ∧ mb.length ≤ 1000) :
    Calls Try.prog 47 #[.pointer (some ⟨gm, 0, none⟩), v] w fun r w' => r = .returned (.bool true) ∧ RJ w0 w' gm got [] false (bs got) L0 := by
  rcases h4 with h4 | ⟨r0, h4, h5, h6, h7⟩
  · exact opens_same h i hi (by omega) (by omega) (by omega) h4
  · exact opens_maybe h i hi (by omega) (by omega) (by omega) h5 h4 h6 h7

set_option maxRecDepth 100000 in
set_option maxHeartbeats 8000000 in
theorem journalSame_walk (w : World) (v : Value) (l : List ByteArray) (hl : StrsIn w v l) (a : Int) (ha0 : 0 ≤ a) (ha1 : a < 256) (vq : Value) (q : List Int) (hq : Reads w 1 vq q.length (q.map (.int .i64))) :
    Calls Try.prog 15 #[v, .int .u8 a, vq] w fun e w' => e = .returned (.bool true) ∧ Below w.heap.size w w' := by
  have hl0 := hl
  obtain ⟨⟨A0, c0, rfl, -, -⟩, -⟩ := hl
  have Hl := Lib.hid hl0
  have Hq := Lib.hid hq
  clear hl0 hq
  have hm9 : 0 ≤ a % 9 := by omega
  have hm9b : a % 9 ≤ 9223372036854775807 := by omega
  go_enter Try.func15, Try.ntmps15
  go_wp2_with fail
  refine (sanity34_any _).mono ?_
  rintro e w1 ⟨rfl, hb⟩
  have HA4 := Lib.hid ((At.start w).keep (Turns.below (S := No) hb))
  clear hb
  go_wp2_with fail
  refine (at_new HA4.out).mono ?_
  rintro r w5 ⟨rfl, h5⟩
  have HA5 := Lib.hid h5
  clear h5 HA4
  generalize w1.heap.size = gd at *
  go_wp2_with fail
  refine (at_openJ HA5.out (by decide) rfl holds_nil).mono ?_
  rintro r w6 ⟨jb, A, c, σ1, rfl, HG1, HA6⟩
  clear HA5
  go_wp2_with fail
  refine (rnew34_any (HA6.out.front 2 rfl).tail).mono ?_
  rintro r w7 ⟨rfl, h7⟩
  obtain ⟨AL, cL, vM, h7⟩ := rj_back h7
  have HS7 : Hid (SameAt w w7 l jb gd w6.heap.size 0) := ⟨σ1, _, vM, by have := HG1.out.2.2; have : DS.new.n = 0 := rfl; omega, .inl ⟨64, HG1.out.1, h7⟩⟩
  clear h7 HA6
  generalize w6.heap.size = gm at *
  go_wp2_with fail
  go_loopw [13] (fun i wr => ∃ (k : Nat), k ≤ 10 ∧ k ≤ l.length ∧ i = .int .i64 (k : Int) ∧ Hid (SameAt w wr l jb gd gm k)) (fun i _ => 10 - (intOf i).toNat)
  case atStart => exact ⟨0, by omega, by omega, rfl, HS7⟩
  case round =>
    obtain ⟨k, hk5, hkl, rfl, HS⟩ := hrel
    by_cases hlt : k < l.length ∧ k < 10
    · obtain ⟨hlt, hk40⟩ := hlt
      obtain ⟨s, hs⟩ : ∃ s, l[k]? = some s := ⟨_, List.getElem?_eq_getElem hlt⟩
      obtain ⟨b1, o1, hA, hcc, hsz⟩ := strs_at2 Hl.out rfl k s hs
      subst hA
      have HCC : Hid (∀ {w' : World} {L' : List HP}, At w w' L' → w'.cell? ⟨b1, o1 + k, none⟩ = some (.string s)) := hcc
      have HSK := Lib.hid hs
      have HSZ := Lib.hid hsz
      clear hcc hs hsz
      have hlI : (k : Int) < (l.length : Int) := by omega
      have hkI : (k : Int) < 10 := by omega
      go_wp2_with fail
      · refine (HS.out.fail (a % 9) hm9b).mono ?_
        rintro r w8 ⟨rfl, h8⟩
        have HX := Lib.hid h8.drew
        have hx0 : w8.cell? ⟨b1, o1 + k, none⟩ = some (.string s) := by obtain ⟨L', hL'⟩ := h8.at; exact HCC.out hL'
        clear h8 HS
        go_wp2_with fail
        go_region_held3 (fun w' => w'.cell? ⟨b1, o1 + k, none⟩ = some (.string s))
          (first
            | exact (by obtain ⟨L', hL'⟩ := HZ.out.at; exact HCC.out hL')
            | exact (by obtain ⟨L', hL'⟩ := HY.out.at; exact HCC.out hL')
            | exact (by obtain ⟨L', hL'⟩ := HX.out.at; exact HCC.out hL'))
          (first
            | (go_at_call 44; refine (short_any _ s HSZ.out).mono ?_; rintro r w9 ⟨rfl, rfl⟩)
            | (go_at_call 43; refine (HX.out.append hk5 s).mono ?_; rintro r w9 ⟨cc, rfl, h9⟩; have HY := Lib.hid h9; clear h9)
            | (go_at_call 45; refine (HY.out.append hk40 HSK.out).mono ?_; rintro r w10 ⟨⟨vv, rfl⟩, h10⟩; have HZ := Lib.hid h10; clear h10))
        go_wp2_with fail
        exact ⟨⟨k + 1, by omega, by omega, by go_num, HZ⟩, by simp [intOf]; omega⟩
      · have HX := Lib.hid HS.out.drew
        have hx0 : wr.cell? ⟨b1, o1 + k, none⟩ = some (.string s) := by obtain ⟨L', hL'⟩ := HS.out.at; exact HCC.out hL'
        clear HS
        go_region_held3 (fun w' => w'.cell? ⟨b1, o1 + k, none⟩ = some (.string s))
          (first
            | exact (by obtain ⟨L', hL'⟩ := HZ.out.at; exact HCC.out hL')
            | exact (by obtain ⟨L', hL'⟩ := HY.out.at; exact HCC.out hL')
            | exact (by obtain ⟨L', hL'⟩ := HX.out.at; exact HCC.out hL'))
          (first
            | (go_at_call 44; refine (short_any _ s HSZ.out).mono ?_; rintro r w9 ⟨rfl, rfl⟩)
            | (go_at_call 43; refine (HX.out.append hk5 s).mono ?_; rintro r w9 ⟨cc, rfl, h9⟩; have HY := Lib.hid h9; clear h9)
            | (go_at_call 45; refine (HY.out.append hk40 HSK.out).mono ?_; rintro r w10 ⟨⟨vv, rfl⟩, h10⟩; have HZ := Lib.hid h10; clear h10))
        go_wp2_with fail
        exact ⟨⟨k + 1, by omega, by omega, by go_num, HZ⟩, by simp [intOf]; omega⟩
    · have hor : (¬ ((k : Int) < (l.length : Int)) ∧ k ≤ 10) ∨ ((k : Int) < (l.length : Int) ∧ ¬ ((k : Int) < 10)) := by omega
      clear hlt
      rcases hor with ⟨h1, _⟩ | ⟨h1, h2⟩
      all_goals
        go_wp2_with fail
        refine (HS.out.fin hk5).mono ?_
        rintro r w8 ⟨rfl, σ, vL, vM, L, mb, got, br, m, b, x, y, e, bj, HF, HA8⟩
        clear HS
        go_wp2_with fail
        refine (at_openJ (HA8.out.front 1 rfl) (by have := HF.out.2.1; omega) (DS.off_of HF.out.1) HF.out.2.2.1).mono ?_
        rintro r w9 ⟨jb2, A2, c2, σ2, rfl, HG2, HA9⟩
        have h9 : RJ w w9 gm L mb br y [jn jb2 gd got.length (bs got) e false, dk gd σ2, sl (.slice A2 got.length c2) got, jn jb gd m b x bj] :=
          ⟨vL, vM, HA9.out.perm (List.perm_append_comm (l₁ := [jn jb2 gd got.length (bs got) e false, dk gd σ2, sl (.slice A2 got.length c2) got, jn jb gd m b x bj]) (l₂ := [bl gm 74 #[vL, vM, .bool br, .int .i64 y], sl vL L, sl vM mb]))⟩
        have HR9 := Lib.hid h9
        clear h9 HA9 HA8
        go_wp2_with fail
        refine (opens_any HR9.out 2 rfl HF.out.2.2.2.1 HF.out.2.2.2.2.1 HF.out.2.2.2.2.2.1 HF.out.2.2.2.2.2.2).mono ?_
        rintro r w10 ⟨rfl, vL', vM', h10⟩
        have HA10 := Lib.hid h10
        clear h10 HR9
        go_wp2_with fail
        refine (at_crash HA10.out 4 rfl vq q (HA10.out.reads Hq.out)).mono ?_
        rintro r w11 ⟨rfl, h11⟩
        have HA11 := Lib.hid h11
        clear h11 HA10
        generalize w10.heap.size = gc at *
        go_wp2_with fail
        refine (at_openJ HA11.out (show (0 : Nat) < _ by decide) rfl (HG2.out.1.crash_holds q)).mono ?_
        rintro r w12 ⟨jb3, A3, c3, σ4, rfl, HG4, HA12⟩
        clear HA11
        go_wp2_with fail
        refine (at_same HA12.out (a := got) (b := got) (HA12.out.list 2 rfl) (HA12.out.list 8 rfl) (by have := HF.out.2.2.2.1; omega) (by have := HF.out.2.2.2.1; omega)).mono ?_
        rintro r w13 ⟨rfl, h13⟩
        have HA13 := Lib.hid h13
        clear h13
        rw [decide_eq_true rfl]
        go_wp2_with fail
        go_ret
        exact ⟨rfl, HA13.out.below⟩

set_option maxRecDepth 100000 in
theorem journalSame_lifted (os : Os) (started : os.Started) (H : Type) (enc : TypeId × Value → H) :
    ReturnsInHanded {} Try.checked os 15 .any (Rows.journalSameSpec.pre6 enc Try.prog Try.f15 Rows.journalSameRow.domain false) (Rows.journalSameSpec.post enc Try.prog Try.f15 false true false false) := by
  refine returnsInHanded_of_change (C := Try.checked) own_knob started (by kernel_rfl) Try.func15
    (ChangeSpec.witness6 (enc := enc) (C := Try.checked) false ⟨#[], #[.slice none 0 0, .int .u8 0, .slice none 0 0], []⟩ 8 (by kernel_rfl) (by kernel_rfl) (by kernel_rfl) (by kernel_rfl)) ?_
  intro W base args ds gs before hval0 hW hcnd _
  have hval : ∀ (j : Nat) t v, Try.f15.params[j]? = some t → args[j]? = some v → Value.okWide Try.prog W .any base t v := hval0
  have hW' := hW
  obtain ⟨p, q, hA0, hV, rfl, hfz, hnd⟩ := hW
  have hA : DataW.TrodAll enc Try.prog W 0 (fun _ => true) true Try.f15.params.toList args.toList ds p := hA0
  rw [Try.params15] at hA hval
  obtain ⟨v0, vs0, d0, ds0, p0, q0, hargs, rfl, rfl, h0, r0⟩ := trodAll_cons hA
  obtain ⟨v1, vs1, d1, ds1, p1, q1, rfl, rfl, rfl, h1, r1⟩ := trodAll_cons r0
  obtain ⟨v2, vs2, d2, ds2, p2, q2, rfl, rfl, rfl, h2, r2⟩ := trodAll_cons r1
  obtain ⟨rfl, rfl, rfl⟩ := trodAll_nil r2
  obtain rfl : args = #[v0, v1, v2] := by cases args; simp_all
  obtain ⟨rfl, rfl⟩ := trodVars_none hV
  clear hA0 hval0
  have lt0 : ∀ x ∈ p0, x.block < W.heap.size := by obtain ⟨m, hm⟩ := h0; exact DataW.trod_lt m _ _ _ hm
  obtain ⟨l0, R0⟩ := arg_strs (hval 0 64 v0 rfl rfl) h0
  have lt1 : ∀ x ∈ p1, x.block < W.heap.size := by obtain ⟨m, hm⟩ := h1; exact DataW.trod_lt m _ _ _ hm
  obtain ⟨a1, e1, _, _, w1⟩ := open_int Try.underlying5 (hval 1 5 v1 rfl rfl) h1
  have b1 := bounds_u8 w1
  subst e1
  have lt2 : ∀ x ∈ p2, x.block < W.heap.size := by obtain ⟨m, hm⟩ := h2; exact DataW.trod_lt m _ _ _ hm
  obtain ⟨l2, R2⟩ := arg_ints (hval 2 36 v2 rfl rfl) h2
  refine (journalSame_walk W v0 l0 R0 a1 (by omega) (by omega) v2 l2 R2).mono fun e W' ⟨he, bel⟩ => ?_
  subst he
  exact ⟨_, rfl, _, _, _, [], _, [], hW', trodAll_mk1 (shut_bool Try.underlying4 _), (trodAll_cons_mk (Below.trod laid_out (by kernel_rfl) (of_decide_eq_true (by kernel_rfl)) h0 bel lt0) (trodAll_cons_mk (Below.trod laid_out (by kernel_rfl) (of_decide_eq_true (by kernel_rfl)) h1 bel lt1) (trodAll_cons_mk (Below.trod laid_out (by kernel_rfl) (of_decide_eq_true (by kernel_rfl)) h2 bel lt2) trodAll_mk0))), rfl, bel.frame _, fun h => by cases h⟩

theorem journalSame_holds : Rows.JournalSameSaid :=
  OpenClaim.holds_of_wide 15 Try.f15 rfl rfl rfl rfl rfl rfl rfl ⟨rfl, rfl, rfl, rfl, rfl⟩ rfl rfl rfl rfl rfl (by kernel_rfl) Try.func15 (by kernel_rfl)
    (of_decide_eq_true (by kernel_rfl)) (by unfold Func.isWrapper; first | (rw [if_pos (by decide +kernel)]; kernel_rfl) | (rw [if_neg (by decide +kernel)]; exact ⟨rfl, rfl⟩))
    (fun os started H enc _ => journalSame_lifted os started H enc)
#print axioms journalSame_holds
end Go.Proofs.Ytnfmcmjfpbmloaa
