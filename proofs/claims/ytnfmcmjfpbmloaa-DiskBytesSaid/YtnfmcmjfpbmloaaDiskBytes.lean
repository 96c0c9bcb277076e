/-
  Proved: for every text, offset, length and survivors DiskBytes returns true, and changes nothing that was there before the call. No conditions.
-/
import Derived.Test.YtnfmcmjfpbmloaaDkS
import Derived.Test.YtnfmcmjfpbmloaaDkT
import Derived.Lib.MinMax
namespace Go.Proofs.Ytnfmcmjfpbmloaa
open Go.RowKit Go.ChangeShapes Go.WideShapes Go.ChangeAt
open Go.ChangeMaps (open_string shut_string)

theorem at_repeated_n {w0 w : World} {L : List HP} (h : At w0 w L) (c : UInt8) (n : Int) (m : Nat) (hm : n = m) (hn : m ≤ 100000) (T : ByteArray) (hT : str (List.replicate m c) = T) :
    Calls Try.prog 33 #[.int .u8 (c.toNat : Int), .int .i64 n] w fun e w' => e = .returned (.string T) ∧ At w0 w' L := by
  subst hm hT
  exact at_repeated h c m hn

theorem byte_key (A C : ByteArray) (c : List UInt8) (o m : Nat) (hc : C.data.toList = c) (h : BOk A.data.toList o m c) (k : Nat) (h1 : k < C.size) :
    (∃ h2 : k < A.size, ((C[k]'h1).toNat : Int) = ((A[k]'h2).toNat : Int)) ∨ (o ≤ k ∧ k < o + m ∧ ((C[k]'h1).toNat : Int) = 238) ∨ (A.size ≤ k ∧ ((C[k]'h1).toNat : Int) = 0) := by
  have hb : c[k]? = some (C[k]'h1) := by
    rw [← hc, Array.getElem?_toList]
    exact Array.getElem?_eq_getElem h1
  rcases h.each k _ hb with h2 | ⟨a1, a2, h2⟩ | ⟨a1, h2⟩
  · rw [Array.getElem?_toList] at h2
    obtain ⟨h3, h4⟩ := Array.getElem?_eq_some_iff.1 h2
    exact .inl ⟨h3, by rw [← h4]; rfl⟩
  · exact .inr (.inl ⟨a1, a2, by rw [h2]; rfl⟩)
  · exact .inr (.inr ⟨by simpa using a1, by rw [h2]; rfl⟩)

set_option maxRecDepth 100000 in
set_option maxHeartbeats 1000000 in
theorem diskBytes_walk (w : World) (s : ByteArray) (_hs : s.size ≤ maxLen) (t0 t1 : Int) (_h0 : -9223372036854775808 ≤ t0 ∧ t0 ≤ 9223372036854775807) (_h1 : -9223372036854775808 ≤ t1 ∧ t1 ≤ 9223372036854775807) (v : Value) (q : List Int) (hq : Reads w 1 v q.length (q.map (.int .i64))) :
    Calls Try.prog 5 #[.string s, .agg #[.int .i64 t0, .int .i64 t1], v] w fun e w' => e = .returned (.bool true) ∧ Below w.heap.size w w' := by
  have Hq := Lib.hid hq
  clear hq
  obtain ⟨N, hN⟩ : ∃ N : Nat, min (s.size : Int) 200 = N := ⟨(min (s.size : Int) 200).toNat, by omega⟩
  have hN1 : N ≤ s.size := by omega
  have hN2 : N ≤ 200 := by omega
  obtain ⟨A, hA⟩ : ∃ A : ByteArray, s.extract 0 N = A := ⟨_, rfl⟩
  have hAs : A.size ≤ 200 := by rw [← hA]; simp; omega
  have hAl : (A.data.toList.length : Int) ≤ 200 := by simp; omega
  obtain ⟨o, ho⟩ : ∃ o : Nat, t0 % 250 = (o : Int) := ⟨(t0 % 250).toNat, by omega⟩
  have ho2 : o < 250 := by omega
  obtain ⟨m, hm⟩ : ∃ m : Nat, 1 + t1 % 200 = (m : Int) := ⟨(1 + t1 % 200).toNat, by omega⟩
  have hm2 : m ≤ 200 := by omega
  obtain ⟨T, hT⟩ : ∃ T : ByteArray, str (List.replicate m 0xee) = T := ⟨_, rfl⟩
  have hTs : T.size = m := by rw [← hT, str_size]; simp
  have hTd : T.data.toList = List.replicate m 0xee := by rw [← hT, str_data]
  have hTl : (T.data.toList.length : Int) ≤ 200 := by simp; omega
  obtain ⟨σ1, hσ1⟩ : ∃ σ1, DS.new.write 0 A.data.toList = σ1 := ⟨_, rfl⟩
  have L1 : σ1.lim = false := by rw [← hσ1, DS.write_lim]; rfl
  have N1 : σ1.n ≤ 1 := by rw [← hσ1]; exact DS.write_n DS.new _ _
  obtain ⟨σ2, hσ2⟩ : ∃ σ2, σ1.sync = σ2 := ⟨_, rfl⟩
  have L2 : σ2.lim = false := by rw [← hσ2, DS.sync_lim]; exact L1
  have N2 : σ2.n ≤ 2 := by rw [← hσ2]; have := DS.sync_n σ1; omega
  obtain ⟨σ3, hσ3⟩ : ∃ σ3, σ2.write (o : Int) T.data.toList = σ3 := ⟨_, rfl⟩
  have hB : BOk A.data.toList o m (σ3.crash q).now := by
    rw [← hσ3, ← hσ2, ← hσ1, hTd]
    exact bytes_ok _ o m q (by simp; omega) (by omega) hm2
  have E1 := Lib.hid (DS.writeE_ok (σ := DS.new) rfl (off := 0) (s := A.data.toList) (by omega) (by omega))
  have E2 := Lib.hid (DS.syncE_ok L1)
  have E3 := Lib.hid (DS.writeE_ok L2 (off := (o : Int)) (s := T.data.toList) (by omega) (by omega))
  have H1 := Lib.hid hσ1
  have H2 := Lib.hid hσ2
  have H3 := Lib.hid hσ3
  have HB := Lib.hid hB
  have HT := Lib.hid hT
  clear hσ1 hσ2 hσ3 L1 L2 hAl hTl hB hTd hT
  have q1 : IntKind.i64.wrap (1 + t1 % 200) = (m : Int) := by rw [IntWalk.i64_in _ (by omega), hm]
  go_enter Try.func5, Try.ntmps5
  go_wp2_with fail
  refine (sanity_any _).mono ?_
  rintro e w1 ⟨rfl, hb⟩
  have HA1 := Lib.hid ((at_alloc (At.start w) _ #[.int .i64 t0, .int .i64 t1]).keep (Turns.below (S := No) hb))
  clear hb
  go_wp2_with fail
  refine (at_new HA1.out).mono ?_
  rintro e w2 ⟨rfl, h⟩
  have c0 := h.cell 1 rfl 0 _ rfl
  have c1 := h.cell 1 rfl 1 _ rfl
  have HA2 := Lib.hid h
  clear h HA1
  generalize w1.heap.size = gd at *
  go_wp2_with fail
  refine (mod_any t0 250 _ (by omega) (by omega)).mono ?_
  rintro e w4' ⟨rfl, rfl⟩
  go_wp2_with fail
  refine (mod_any t1 200 _ (by omega) (by omega)).mono ?_
  rintro e w4' ⟨rfl, rfl⟩
  go_wp2_with fail
  refine (at_repeated_n HA2.out 238 _ m (by first | rfl | omega) (by omega) T HT.out).mono ?_
  rintro e w3 ⟨rfl, h⟩
  have HA3 := Lib.hid h
  clear h HA2 c0 c1
  go_wp2_with fail
  refine (at_write_c HA3.out 0 rfl (by decide) _ _ 0 E1.out σ1 H1.out).mono ?_
  rintro e w4 ⟨rfl, h⟩
  have HA4 := Lib.hid h
  clear h HA3
  go_wp2_with fail
  refine (at_sync_c HA4.out 0 rfl (by omega) 0 E2.out σ2 H2.out).mono ?_
  rintro e w5 ⟨rfl, h⟩
  have HA5 := Lib.hid h
  clear h HA4
  go_wp2_with fail
  refine (at_write_c HA5.out 0 rfl (by omega) (o : Int) _ 0 E3.out σ3 H3.out).mono ?_
  rintro e w6 ⟨rfl, h⟩
  have HA6 := Lib.hid h
  have HR := Lib.hid (h.reads Hq.out)
  clear h HA5
  go_wp2_with fail
  refine (at_crash HA6.out 0 rfl v q HR.out).mono ?_
  rintro e w7 ⟨rfl, h⟩
  clear HR E1 E2 E3 H1 H2 H3
  generalize w6.heap.size = gc at *
  generalize σ3.crash q = σ4 at *
  obtain ⟨c, hc⟩ : ∃ c, σ4.now = c := ⟨_, rfl⟩
  obtain ⟨C, hC⟩ : ∃ C, str c = C := ⟨_, rfl⟩
  have hCs : C.size = c.length := by rw [← hC, str_size]
  rw [hc] at HB
  have b1 := HB.out.ge
  have b2 := HB.out.le
  simp at b1 b2
  have b3 : (A.size : Int) ≤ (c.length : Int) := by omega
  have b4 : (c.length : Int) ≤ max (A.size : Int) ((o : Int) + (T.size : Int)) := by omega
  have b5 : ¬ ((c.length : Int) < (A.size : Int)) := by omega
  have b6 : ¬ (max (A.size : Int) ((o : Int) + (T.size : Int)) < (c.length : Int)) := by omega
  have b7 : IntKind.i64.wrap ((o : Int) + (T.size : Int)) = (o : Int) + (T.size : Int) := IntWalk.i64_in _ (by omega)
  have HA7 := Lib.hid h
  have KS := Lib.hid (at_size_c h 0 rfl (c.length : Int) (by rw [hc]))
  have KR : Hid (Calls Try.prog 36 #[.pointer (some ⟨gc, 0, none⟩), .int .i64 0, .int .i64 (c.length : Int)] w7 fun e w' => e = .returned (.string C) ∧ At w w' _) := Lib.hid (at_read_c h 0 rfl 0 (c.length : Int) C (by
    rw [← hC]
    unfold DS.read
    rw [hc]
    by_cases h0 : (0 : Int) < 0 ∨ (c.length : Int) < 1
    · rw [if_pos h0, show c = [] from List.eq_nil_of_length_eq_zero (by omega)]
    · rw [if_neg h0]; simp))
  clear h HA6 b1 b2
  go_wp2_with ((go_at_call 24; refine KS.out.mono ?_; rintro e w8 ⟨rfl, rfl⟩))
  refine KR.out.mono ?_
  rintro e w8 ⟨rfl, h8⟩
  have H8 := Lib.hid h8
  have KS := Lib.hid (at_size_c h8 0 rfl (c.length : Int) (by rw [hc]))
  clear h8 HA7 KR b3 b4 b5 b6
  have hCi : (C.size : Int) = (c.length : Int) := by omega
  go_wp2_with ((go_at_call 24; refine KS.out.mono ?_; rintro e w9 ⟨rfl, rfl⟩))
  clear KS
  have KEY := Lib.hid (byte_key A C c o m (by rw [← hC, str_data]) HB.out)
  clear hC HB b7 HT
  have b7 : IntKind.i64.wrap ((o : Int) + (T.size : Int)) = (o : Int) + (T.size : Int) := IntWalk.i64_in _ (by omega)
  go_loopw [17] (fun i wr => ∃ (k : Nat), k ≤ C.size ∧ i = .int .i64 (k : Int) ∧ Hid (At w wr [])) (fun i _ => C.size - (intOf i).toNat)
  case atStart => exact ⟨0, by omega, rfl, H8.out.tail.tail.tail⟩
  case round =>
    obtain ⟨k, hk, rfl, HW⟩ := hrel
    by_cases hlt : k < C.size
    · have hlI : (k : Int) < (C.size : Int) := by omega
      have key := KEY.out k hlt
      clear H8
      rcases key with ⟨hka, hv⟩ | ⟨ho1, ho3, hv⟩ | ⟨hka, hv⟩
      · have hkI : (k : Int) < (A.size : Int) := by omega
        go_wp2_with fail
        go_quiet (fail)
        go_wp2
        all_goals exact ⟨⟨k + 1, by omega, by go_num, HW.out.drewN _⟩, by simp [intOf]; omega⟩
      · by_cases hka : k < A.size
        · have hkI : (k : Int) < (A.size : Int) := by omega
          go_wp2_with fail
          go_quiet (fail)
          go_wp2
          all_goals exact ⟨⟨k + 1, by omega, by go_num, HW.out.drewN _⟩, by simp [intOf]; omega⟩
        · have hkI : ¬ ((k : Int) < (A.size : Int)) := by omega
          go_wp2_with fail
          go_quiet (fail)
          go_wp2
          all_goals exact ⟨⟨k + 1, by omega, by go_num, HW.out.drewN _⟩, by simp [intOf]; omega⟩
      · replace hka : ¬ (k < A.size) := by omega
        have hkI : ¬ ((k : Int) < (A.size : Int)) := by omega
        go_wp2_with fail
        go_quiet (fail)
        go_wp2
        all_goals exact ⟨⟨k + 1, by omega, by go_num, HW.out.drewN _⟩, by simp [intOf]; omega⟩
    · have hlI : ¬ ((k : Int) < (C.size : Int)) := by omega
      go_wp2
      go_ret
      exact ⟨rfl, HW.out.below⟩

set_option maxRecDepth 100000 in
theorem diskBytes_lifted (os : Os) (started : os.Started) (H : Type) (enc : TypeId × Value → H) :
    ReturnsInHanded {} Try.checked os 5 .any (Rows.diskBytesSpec.pre6 enc Try.prog Try.f5 Rows.diskBytesRow.domain false) (Rows.diskBytesSpec.post enc Try.prog Try.f5 false true false false) := by
  refine returnsInHanded_of_change (C := Try.checked) own_knob started (by kernel_rfl) Try.func5
    (ChangeSpec.witness6 (enc := enc) (C := Try.checked) false ⟨#[], #[.string ByteArray.empty, .agg #[.int .i64 0, .int .i64 0], .slice none 0 0], []⟩ 8 (by kernel_rfl) (by kernel_rfl) (by kernel_rfl) (by kernel_rfl)) ?_
  intro W base args ds gs before hval0 hW hcnd _
  have hval : ∀ (j : Nat) t v, Try.f5.params[j]? = some t → args[j]? = some v → Value.okWide Try.prog W .any base t v := hval0
  have hW' := hW
  obtain ⟨p, q, hA0, hV, rfl, hfz, hnd⟩ := hW
  have hA : DataW.TrodAll enc Try.prog W 0 (fun _ => true) true Try.f5.params.toList args.toList ds p := hA0
  rw [Try.params5] at hA hval
  obtain ⟨v0, vs0, d0, ds0, p0, q0, hargs, rfl, rfl, h0, r0⟩ := trodAll_cons hA
  obtain ⟨v1, vs1, d1, ds1, p1, q1, rfl, rfl, rfl, h1, r1⟩ := trodAll_cons r0
  obtain ⟨v2, vs2, d2, ds2, p2, q2, rfl, rfl, rfl, h2, r2⟩ := trodAll_cons r1
  obtain ⟨rfl, rfl, rfl⟩ := trodAll_nil r2
  obtain rfl : args = #[v0, v1, v2] := by cases args; simp_all
  obtain ⟨rfl, rfl⟩ := trodVars_none hV
  clear hA0 hval0
  have lt0 : ∀ x ∈ p0, x.block < W.heap.size := by obtain ⟨m, hm⟩ := h0; exact DataW.trod_lt m _ _ _ hm
  obtain ⟨s0, e0, _, _, ws0⟩ := open_string Try.underlying9 (hval 0 9 v0 rfl rfl) h0
  subst e0
  have lt1 : ∀ x ∈ p1, x.block < W.heap.size := by obtain ⟨m, hm⟩ := h1; exact DataW.trod_lt m _ _ _ hm
  obtain ⟨a1, b1, e1, ba1, bb1⟩ := arg_two (hval 1 42 v1 rfl rfl) h1
  subst e1
  have lt2 : ∀ x ∈ p2, x.block < W.heap.size := by obtain ⟨m, hm⟩ := h2; exact DataW.trod_lt m _ _ _ hm
  obtain ⟨l2, R2⟩ := arg_ints (hval 2 36 v2 rfl rfl) h2
  refine (diskBytes_walk W s0 ws0 a1 b1 ba1 bb1 v2 l2 R2).mono fun e W' ⟨he, bel⟩ => ?_
  subst he
  exact ⟨_, rfl, _, _, _, [], _, [], hW', trodAll_mk1 (shut_bool Try.underlying4 _), (trodAll_cons_mk (Below.trod laid_out (by kernel_rfl) (of_decide_eq_true (by kernel_rfl)) h0 bel lt0) (trodAll_cons_mk (Below.trod laid_out (by kernel_rfl) (of_decide_eq_true (by kernel_rfl)) h1 bel lt1) (trodAll_cons_mk (Below.trod laid_out (by kernel_rfl) (of_decide_eq_true (by kernel_rfl)) h2 bel lt2) trodAll_mk0))), rfl, bel.frame _, fun h => by cases h⟩

theorem diskBytes_holds : Rows.DiskBytesSaid :=
  OpenClaim.holds_of_wide 5 Try.f5 rfl rfl rfl rfl rfl rfl rfl ⟨rfl, rfl, rfl, rfl, rfl⟩ rfl rfl rfl rfl rfl (by kernel_rfl) Try.func5 (by kernel_rfl)
    (of_decide_eq_true (by kernel_rfl)) (by unfold Func.isWrapper; first | (rw [if_pos (by decide +kernel)]; kernel_rfl) | (rw [if_neg (by decide +kernel)]; exact ⟨rfl, rfl⟩))
    (fun os started H enc _ => diskBytes_lifted os started H enc)
#print axioms diskBytes_holds
end Go.Proofs.Ytnfmcmjfpbmloaa
