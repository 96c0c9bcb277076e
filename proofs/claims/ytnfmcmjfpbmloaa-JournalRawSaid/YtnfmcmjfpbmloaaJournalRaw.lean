/-
  Proved: for all contents, every offset and every record JournalRaw returns true, and changes nothing that was there before the call. No conditions.
-/
import Derived.Test.YtnfmcmjfpbmloaaJrO
namespace Go.Proofs.Ytnfmcmjfpbmloaa
open Go.RowKit Go.ChangeShapes Go.WideShapes Go.ChangeAt
open Go.ChangeMaps (open_string shut_string)

set_option maxRecDepth 100000 in
set_option maxHeartbeats 8000000 in
theorem journalRaw_walk (w : World) (s : ByteArray) (hs : s.size ≤ maxLen) (a : Int) (ha0 : 0 ≤ a) (ha1 : a < 256) (rc : ByteArray) (hrc : rc.size ≤ maxLen) :
    Calls Try.prog 16 #[.string s, .int .u8 a, .string rc] w fun e w' => e = .returned (.bool true) ∧ Below w.heap.size w w' := by
  obtain ⟨i0, hi0, hz0, hz1, hz2⟩ := info_parts str_info
  have HRC := Lib.hid hrc
  clear hrc
  unfold maxLen at hs
  obtain ⟨N, hN⟩ : ∃ N : Nat, min (s.size : Int) 300 = N := ⟨(min (s.size : Int) 300).toNat, by omega⟩
  have hN1 : N ≤ s.size := by omega
  have HF := Lib.hid (show s.extract 0 N = cut300 s by unfold cut300; rw [show min s.size 300 = N by omega])
  obtain ⟨o, ho⟩ : ∃ o : Nat, a % 100 = (o : Int) := ⟨(a % 100).toNat, by omega⟩
  have ho1 : o < 100 := by omega
  go_enter Try.func16, Try.ntmps16
  go_wp2_with fail
  refine (sanity34_any _).mono ?_
  rintro e w1 ⟨rfl, hb⟩
  have HA4 := Lib.hid ((At.start w).keep (Turns.below (S := No) hb))
  clear hb
  go_wp2_with fail
  refine (at_new HA4.out).mono ?_
  rintro r w5 ⟨rfl, h5⟩
  have HA5 := Lib.hid h5
  clear h5 HA4
  generalize w1.heap.size = gd at *
  go_wp2_with fail
  rw [HF.out]
  have hcs := cut300_size s
  generalize cut300 s = t at *
  refine (at_write HA5.out 0 rfl (by decide) (o : Int) t).mono ?_
  rintro r w6 ⟨rfl, h6⟩
  have hts : t.data.toList.length = t.size := by rw [Array.length_toList]; rfl
  have HE : Hid (DS.new.writeE (o : Int) t.data.toList = 0) := by
    show _ = _
    exact DS.writeE_ok rfl (by omega) (by omega)
  have hw0 : DS.new.write (o : Int) t.data.toList = { DS.new.tick with now := lay [] o t.data.toList, pcs := pieces o t.data.toList } := by
    rw [DS.write_ok rfl (by omega) (by omega)]
    rfl
  rw [HE.out]
  rw [hw0] at h6
  have HA6 := Lib.hid h6
  clear h6 HA5 hw0 HE
  have hlen : (lay [] o t.data.toList).length ≤ 400 := by rw [length_lay]; simp; omega
  obtain ⟨σ0, hσ0⟩ : ∃ σ0 : DS, σ0 = { DS.new.tick with now := lay [] o t.data.toList, pcs := pieces o t.data.toList } := ⟨_, rfl⟩
  have hf0 : σ0.lim = false ∧ σ0.n = 1 ∧ σ0.now = lay [] o t.data.toList := by rw [hσ0]; exact ⟨rfl, rfl, rfl⟩
  rw [← hσ0] at HA6
  clear hσ0
  have HF0 := Lib.hid hf0
  clear hf0
  go_wp2_with fail
  refine (at_sync_c HA6.out 0 rfl (by rw [HF0.out.2.1]; decide) 0 (DS.syncE_ok HF0.out.1) σ0.sync rfl).mono ?_
  rintro r w7 ⟨rfl, h7⟩
  have HA7 := Lib.hid h7
  clear h7 HA6
  have hs1 : σ0.sync.lim = false ∧ σ0.sync.n ≤ 2 ∧ σ0.sync.now.length ≤ 400 := by
    refine ⟨(DS.sync_lim σ0).trans HF0.out.1, ?_, ?_⟩
    · have := DS.sync_n σ0; have := HF0.out.2.1; omega
    · rw [DS.sync_ok HF0.out.1]
      show σ0.now.length ≤ _
      rw [HF0.out.2.2]
      exact hlen
  have HF1 := Lib.hid hs1
  clear hs1 HF0 hlen
  generalize σ0.sync = σ1 at *
  by_cases hH : ∃ l e, Holds σ1.now l e
  · obtain ⟨l, e, hH⟩ := hH
    have HH := Lib.hid hH
    have hge := hH.ge
    have hbl := hH.bs_le
    have hlb := bs_len l
    have hbl2 : bs l ≤ 4000 := by have := HF1.out.2.2; omega
    clear hH hge hbl
    go_wp2_with fail
    refine (at_openJ HA7.out (by have := HF1.out.2.1; omega) (DS.off_of HF1.out.1) HH.out).mono ?_
    rintro r w8 ⟨jb, A, c, σ2, rfl, HG2, HA8⟩
    go_wp2_with fail
    refine (many_any HA8.out 0 rfl).mono ?_
    rintro r w8' ⟨rfl, rfl⟩
    go_wp2_with fail
    refine (short_any _ rc HRC.out).mono ?_
    rintro r w8' ⟨rfl, rfl⟩
    have hsr := sh_size rc
    go_wp2_with fail
    refine (at_appendJ HA8.out HG2.out.1 (HG2.out.2.1.trans HF1.out.1) (sh rc) (by have := HG2.out.2.2; have := HF1.out.2.1; omega) (by omega)).mono ?_
    rintro r w9 ⟨σ3, e3, rfl, HG3, HA9⟩
    go_wp2_with fail
    refine (at_crash HA9.out 1 rfl _ [] (reads_nil _)).mono ?_
    rintro r w10 ⟨rfl, h10⟩
    have HA10 := Lib.hid h10
    clear h10
    generalize w9.heap.size = gc at *
    go_wp2_with fail
    refine (at_openJ HA10.out (show (0 : Nat) < _ by decide) rfl (HG3.out.1.crash_holds [])).mono ?_
    rintro r w11 ⟨jb2, A2, c2, σ4, rfl, HG4, HA11⟩
    clear HA7 HA8 HA9 HA10
    have HLL := Lib.hid (show (l ++ [(sh rc).data.toList]).length = l.length + 1 by simp)
    rw [HLL.out]
    rw [HLL.out] at HA11
    have HRD := Lib.hid ((HA11.out.alloc (.cells #[] 9)).list 5 rfl)
    have hl2 : l.length ≤ 4000 := by omega
    have mk1 : ∀ v' w3, w3.ownsRow 0 9 1 v' (0 + l.length) ([] ++ strs l) → (w11.alloc (.cells #[] 9)).grownBy w3 (Value.slice (some ⟨w11.heap.size, 0, none⟩) 0 0).ownBlock → (v'.ownBlock = (Value.slice (some ⟨w11.heap.size, 0, none⟩) 0 0).ownBlock ∨ v'.ownBlock = some (w11.alloc (.cells #[] 9)).heap.size) →
      ∃ A1 c1, v' = .slice A1 l.length c1 ∧ Hid (At w w3 (sl (.slice A1 l.length c1) l :: jn jb2 gc ((l.length + 1 : Nat) : Int) (bs (l ++ [(sh rc).data.toList])) e3 false :: dk gc σ4 :: sl (.slice A2 (l.length + 1) c2) (l ++ [(sh rc).data.toList]) :: [])) := by
      intro v' w3 k1 k2 k3
      rw [Nat.zero_add, List.nil_append] at k1
      obtain ⟨A1, c1, rfl, _⟩ := own_slice k1
      have hA := at_list_new HA11.out k2 k1 k3
      exact ⟨A1, c1, rfl, ((hA.perm (List.perm_append_comm (l₁ := [_, _, _, _]) (l₂ := [_, _, _]))).tail.tail.tail)⟩
    have HMK1 := Lib.hid mk1
    clear mk1
    go_wp2_with ((with_reducible show wpList _ _ _ (Oper.mk (some 83) _ _ _ _ _ :: _) _ _); refine wpList_append_want _ rfl (.tmp 81) (.tmp 82) 64 rfl 9 i0 _ 1 16 Try.underlying64 hi0 hz0 hz1 hz2 rfl (by decide) (.slice (some ⟨w11.heap.size, 0, none⟩) 0 0) 0 [] rfl (own_empty w11) (.slice A l.length c) l.length (strs l) rfl HRD.out (by unfold strs; simp [Value.oneCell']) (by simp only [maxLen]; omega) (by omega) ?_; intro v1 w12 hown1 hg1 hat1; obtain ⟨A1, c1, hv1, HA12⟩ := HMK1.out v1 w12 hown1 hg1 hat1; subst hv1; clear hown1 hg1 hat1)
    refine (short_any _ rc HRC.out).mono ?_
    rintro r w12' ⟨rfl, rfl⟩
    have mk2 : ∀ v' w3, w3.ownsRow 0 9 1 v' (l.length + 1) (strs l ++ [.string (sh rc)]) → (w12.alloc (.cells #[.string (sh rc)] 9)).grownBy w3 (Value.slice A1 l.length c1).ownBlock → (v'.ownBlock = (Value.slice A1 l.length c1).ownBlock ∨ v'.ownBlock = some (w12.alloc (.cells #[.string (sh rc)] 9)).heap.size) →
      ∃ A3 c3, v' = .slice A3 (l.length + 1) c3 ∧ Hid (At w w3 (sl (.slice A3 (l.length + 1) c3) (l ++ [(sh rc).data.toList]) :: jn jb2 gc ((l.length + 1 : Nat) : Int) (bs (l ++ [(sh rc).data.toList])) e3 false :: dk gc σ4 :: sl (.slice A2 (l.length + 1) c2) (l ++ [(sh rc).data.toList]) :: [])) := by
      intro v' w3 k1 k2 k3
      obtain ⟨A3, c3, rfl, _⟩ := own_slice k1
      exact ⟨A3, c3, rfl, at_list_grow HA12.out 0 rfl k2 (l' := l ++ [(sh rc).data.toList]) (by rw [← strs_snoc, List.length_append]; exact k1) k3⟩
    have HMK2 := Lib.hid mk2
    clear mk2
    have HOW := Lib.hid (show (w12.alloc (.cells #[.string (sh rc)] 9)).ownsRow 0 9 1 (.slice A1 l.length c1) l.length (strs l) by obtain ⟨S, h1, _⟩ := HA12.out.get 0 rfl; exact h1.alloc _)
    go_wp2_with ((with_reducible show wpList _ _ _ (Oper.mk (some 87) _ _ _ _ _ :: _) _ _); refine wpList_append_want _ rfl (.tmp 83) (.tmp 86) 64 rfl 9 i0 _ 1 16 Try.underlying64 hi0 hz0 hz1 hz2 rfl (by decide) (.slice A1 l.length c1) l.length (strs l) rfl HOW.out (.slice (some ⟨w12.heap.size, 0, none⟩) 1 1) 1 [.string (sh rc)] rfl (reads_new w12 9 [.string (sh rc)] 1 1 1 rfl) (by simp [Value.oneCell']) (by simp only [maxLen]; omega) (by omega) ?_; intro v1 w13 hown1 hg1 hat1; obtain ⟨A3, c3, hv1, HA13⟩ := HMK2.out v1 w13 hown1 hg1 hat1; subst hv1; clear hown1 hg1 hat1)
    refine (at_same HA13.out (a := l ++ [(sh rc).data.toList]) (b := l ++ [(sh rc).data.toList]) (by have h := HA13.out.list 3 rfl; exact h) (by have h := HA13.out.list 0 rfl; exact h) (by simp; omega) (by simp; omega)).mono ?_
    rintro r w14 ⟨rfl, h14⟩
    have HA14 := Lib.hid h14
    clear h14
    rw [decide_eq_true rfl]
    go_wp2_with fail
    go_ret
    exact ⟨rfl, HA14.out.below⟩
  · have HN := Lib.hid hH
    clear hH
    go_wp2_with fail
    refine (at_openN HA7.out (by have := HF1.out.2.1; omega) (DS.off_of HF1.out.1) HN.out).mono ?_
    rintro r w8 ⟨rfl, h8⟩
    have HA8 := Lib.hid h8
    clear h8 HA7
    go_wp2_with fail
    go_ret
    exact ⟨rfl, HA8.out.below⟩

set_option maxRecDepth 100000 in
theorem journalRaw_lifted (os : Os) (started : os.Started) (H : Type) (enc : TypeId × Value → H) :
    ReturnsInHanded {} Try.checked os 16 .any (Rows.journalRawSpec.pre6 enc Try.prog Try.f16 Rows.journalRawRow.domain false) (Rows.journalRawSpec.post enc Try.prog Try.f16 false true false false) := by
  refine returnsInHanded_of_change (C := Try.checked) own_knob started (by kernel_rfl) Try.func16
    (ChangeSpec.witness6 (enc := enc) (C := Try.checked) false ⟨#[], #[.string ByteArray.empty, .int .u8 0, .string ByteArray.empty], []⟩ 8 (by kernel_rfl) (by kernel_rfl) (by kernel_rfl) (by kernel_rfl)) ?_
  intro W base args ds gs before hval0 hW hcnd _
  have hval : ∀ (j : Nat) t v, Try.f16.params[j]? = some t → args[j]? = some v → Value.okWide Try.prog W .any base t v := hval0
  have hW' := hW
  obtain ⟨p, q, hA0, hV, rfl, hfz, hnd⟩ := hW
  have hA : DataW.TrodAll enc Try.prog W 0 (fun _ => true) true Try.f16.params.toList args.toList ds p := hA0
  rw [Try.params16] at hA hval
  obtain ⟨v0, vs0, d0, ds0, p0, q0, hargs, rfl, rfl, h0, r0⟩ := trodAll_cons hA
  obtain ⟨v1, vs1, d1, ds1, p1, q1, rfl, rfl, rfl, h1, r1⟩ := trodAll_cons r0
  obtain ⟨v2, vs2, d2, ds2, p2, q2, rfl, rfl, rfl, h2, r2⟩ := trodAll_cons r1
  obtain ⟨rfl, rfl, rfl⟩ := trodAll_nil r2
  obtain rfl : args = #[v0, v1, v2] := by cases args; simp_all
  obtain ⟨rfl, rfl⟩ := trodVars_none hV
  clear hA0 hval0
  have lt0 : ∀ x ∈ p0, x.block < W.heap.size := by obtain ⟨m, hm⟩ := h0; exact DataW.trod_lt m _ _ _ hm
  obtain ⟨s0, e0, _, _, ws0⟩ := open_string Try.underlying9 (hval 0 9 v0 rfl rfl) h0
  subst e0
  have lt1 : ∀ x ∈ p1, x.block < W.heap.size := by obtain ⟨m, hm⟩ := h1; exact DataW.trod_lt m _ _ _ hm
  obtain ⟨a1, e1, _, _, w1⟩ := open_int Try.underlying5 (hval 1 5 v1 rfl rfl) h1
  have b1 := bounds_u8 w1
  subst e1
  have lt2 : ∀ x ∈ p2, x.block < W.heap.size := by obtain ⟨m, hm⟩ := h2; exact DataW.trod_lt m _ _ _ hm
  obtain ⟨s2, e2, _, _, ws2⟩ := open_string Try.underlying9 (hval 2 9 v2 rfl rfl) h2
  subst e2
  refine (journalRaw_walk W s0 ws0 a1 (by omega) (by omega) s2 ws2).mono fun e W' ⟨he, bel⟩ => ?_
  subst he
  exact ⟨_, rfl, _, _, _, [], _, [], hW', trodAll_mk1 (shut_bool Try.underlying4 _), (trodAll_cons_mk (Below.trod laid_out (by kernel_rfl) (of_decide_eq_true (by kernel_rfl)) h0 bel lt0) (trodAll_cons_mk (Below.trod laid_out (by kernel_rfl) (of_decide_eq_true (by kernel_rfl)) h1 bel lt1) (trodAll_cons_mk (Below.trod laid_out (by kernel_rfl) (of_decide_eq_true (by kernel_rfl)) h2 bel lt2) trodAll_mk0))), rfl, bel.frame _, fun h => by cases h⟩

theorem journalRaw_holds : Rows.JournalRawSaid :=
  OpenClaim.holds_of_wide 16 Try.f16 rfl rfl rfl rfl rfl rfl rfl ⟨rfl, rfl, rfl, rfl, rfl⟩ rfl rfl rfl rfl rfl (by kernel_rfl) Try.func16 (by kernel_rfl)
    (of_decide_eq_true (by kernel_rfl)) (by unfold Func.isWrapper; first | (rw [if_pos (by decide +kernel)]; kernel_rfl) | (rw [if_neg (by decide +kernel)]; exact ⟨rfl, rfl⟩))
    (fun os started H enc _ => journalRaw_lifted os started H enc)
#print axioms journalRaw_holds
end Go.Proofs.Ytnfmcmjfpbmloaa
