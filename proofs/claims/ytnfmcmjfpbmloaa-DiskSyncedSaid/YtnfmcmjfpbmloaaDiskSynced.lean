/-
  Proved: for every list of calls and numbers DiskSynced returns true, and changes nothing that was there before the call. No conditions.
-/
import Derived.Test.YtnfmcmjfpbmloaaDkS
import Derived.Test.YtnfmcmjfpbmloaaDkT
namespace Go.Proofs.Ytnfmcmjfpbmloaa
open Go.RowKit Go.ChangeShapes Go.WideShapes Go.ChangeAt
open Go.ChangeMaps (open_string shut_string)

/-! ### what survives -/
theorem lay_take (c : List UInt8) (o : Nat) (t : List UInt8) (n : Nat) (h1 : n ≤ o) (h2 : n ≤ c.length) : (lay c o t).take n = c.take n := by
  apply List.ext_getElem?
  intro i
  rw [List.getElem?_take, List.getElem?_take]
  split
  · rw [lay_get, if_pos (by omega), if_pos (by omega)]
  · rfl
theorem fall_take (q : List Int) (n : Nat) : ∀ (ps : List (Nat × List UInt8)) (k : Nat) (c : List UInt8), n ≤ c.length → (∀ p ∈ ps, n ≤ p.1) → (fall q k c ps).take n = c.take n ∧ n ≤ (fall q k c ps).length
  | [], _, _, h, _ => ⟨rfl, h⟩
  | p :: ps, k, c, h, hp => by
    have h1 := hp p (List.mem_cons_self ..)
    by_cases hl : lives q k = true
    · simp only [fall, hl, if_true]
      obtain ⟨e1, e2⟩ := fall_take q n ps (k + 1) (lay c p.1 p.2) (by rw [length_lay]; omega) fun x hx => hp x (List.mem_cons_of_mem _ hx)
      exact ⟨e1.trans (lay_take _ _ _ _ h1 h), e2⟩
    · simp only [fall, hl]
      exact fall_take q n ps (k + 1) c h fun x hx => hp x (List.mem_cons_of_mem _ hx)

theorem synced_read (σ : DS) (hl : σ.lim = false) (off : Nat) (s : List UInt8) (q : List Int) (ho : σ.now.length ≤ off) (hb : off + s.length ≤ 16777216) :
    ((σ.sync.write off s).crash q).read 0 (σ.now.length : Int) = σ.sync.read 0 (σ.now.length : Int) := by
  rw [DS.sync_ok hl, DS.write_ok (by exact hl) (by omega) (by omega)]
  unfold DS.read
  by_cases h0 : ((0 : Int) < 0 ∨ (σ.now.length : Int) < 1)
  · rw [if_pos h0, if_pos h0]
  · rw [if_neg h0, if_neg h0]
    show ((fall q 0 σ.now ([] ++ pieces (off : Int).toNat s)).drop 0).take _ = (σ.now.drop 0).take _
    rw [List.drop_zero, List.drop_zero, List.nil_append, Int.toNat_natCast, Int.toNat_natCast]
    exact (fall_take q _ _ 0 σ.now (Nat.le_refl _) fun p hp => Nat.le_trans ho (pieces_mem _ off s (Nat.le_refl _) p hp).1).1

/-- The states before the Sync. -/
structure SI (k : Nat) (σ : DS) : Prop where
  lim : σ.lim = false
  n : σ.n ≤ k
  now : σ.now.length ≤ 203

theorem SI.write {k : Nat} {σ : DS} (h : SI k σ) (a : Act) (h1 : -4 < a.off) (h2 : a.off < 4) : SI (k + 1) (σ.write a.spot a.txt) := by
  refine ⟨by rw [DS.write_lim]; exact h.lim, Nat.le_trans (DS.write_n σ _ _) (Nat.succ_le_succ h.n), ?_⟩
  unfold DS.write
  split
  · exact h.now
  · rename_i hb
    rw [DS.off_of h.lim]
    show (lay σ.now a.spot.toNat a.txt).length ≤ 203
    rw [length_lay]
    have h3 := a.txt_le
    have h4 := h.now
    have h5 : a.spot.toNat ≤ 3 := by
      unfold Act.spot
      split <;> omega
    omega

theorem at_repeated_i {w0 w : World} {L : List HP} (h : At w0 w L) (c : UInt8) (n : Int) (h0 : 0 ≤ n) (hn : n ≤ 100000) :
    Calls Try.prog 33 #[.int .u8 (c.toNat : Int), .int .i64 n] w fun e w' => e = .returned (.string (str (List.replicate n.toNat c))) ∧ At w0 w' L := by
  obtain ⟨m, rfl⟩ := Int.eq_ofNat_of_zero_le h0
  exact at_repeated h c m (by omega)

set_option maxRecDepth 100000 in
set_option maxHeartbeats 1000000 in
theorem diskSynced_walk (w : World) (v : Value) (l : List Act) (hl : Reads w 4 v l.length (l.flatMap actCells)) (t0 t1 : Int) (_h0 : -9223372036854775808 ≤ t0 ∧ t0 ≤ 9223372036854775807) (_h1 : -9223372036854775808 ≤ t1 ∧ t1 ≤ 9223372036854775807) (va : Value) (qa : List Int) (ha : Reads w 1 va qa.length (qa.map (.int .i64))) :
    Calls Try.prog 6 #[v, .agg #[.int .i64 t0, .int .i64 t1], va] w fun e w' => e = .returned (.bool true) ∧ Below w.heap.size w w' := by
  have hl0 := hl
  obtain ⟨A, c, rfl, -, -⟩ := hl
  have Hl := Lib.hid hl0
  clear hl0
  have ha0 := ha
  obtain ⟨Aa, ca, rfl, -, -⟩ := ha
  have Ha := Lib.hid ha0
  clear ha0
  go_enter Try.func6, Try.ntmps6
  go_wp2_with fail
  refine (sanity_any _).mono ?_
  rintro e w1 ⟨rfl, hb⟩
  have HA1 := Lib.hid ((at_alloc (At.start w) _ #[.int .i64 t0, .int .i64 t1]).keep (Turns.below (S := No) hb))
  clear hb
  go_wp2_with fail
  refine (at_new HA1.out).mono ?_
  rintro e w2 ⟨rfl, h⟩
  have HA2 := Lib.hid h
  clear h HA1
  generalize w1.heap.size = gd at *
  go_wp2_with fail
  refine (at_rnew HA2.out).mono ?_
  rintro e w3 ⟨rfl, h⟩
  have HA3 := Lib.hid (desk_new (at_alloc h 30 #[.pointer (some ⟨gd, 0, none⟩), .pointer (some ⟨w2.heap.size, 0, none⟩)]))
  clear h HA2
  generalize w2.heap.size = gm at *
  have c0 := HA3.out.cell 0 rfl 0 _ rfl
  go_wp2_with fail
  clear c0
  obtain ⟨gx, hgx⟩ : ∃ gx, w3.heap.size = gx := ⟨_, rfl⟩
  rw [hgx] at HA3
  rw [hgx]
  generalize (w3.alloc (.cells #[.pointer (some ⟨gd, 0, none⟩), .pointer (some ⟨gm, 0, none⟩)] 30)) = w4 at *
  clear hgx
  generalize w.heap.size = gt at *
  go_loopw [9] (fun i wr => ∃ (k : Nat) (σ : DS) (gd gm : Nat), k ≤ 10 ∧ Hid (SI k σ) ∧ i = .int .i64 (k : Int) ∧ Hid (At w wr (deskL gx gd gm σ [bl gt 42 #[.int .i64 t0, .int .i64 t1]]))) (fun i _ => 10 - (intOf i).toNat)
  case atStart => exact ⟨0, DS.new, gd, gm, by omega, ⟨rfl, Nat.le_refl _, by simp [DS.new]⟩, rfl, HA3⟩
  case round =>
    obtain ⟨k, σ, gd, gm, hk, HI, rfl, HA⟩ := hrel
    by_cases hlt : k < l.length ∧ k < 10
    · obtain ⟨hlt, hk40⟩ := hlt
      obtain ⟨a, ha⟩ : ∃ a, l[k]? = some a := ⟨_, List.getElem?_eq_getElem hlt⟩
      obtain ⟨b, off, hA, x0, x1, x2, x3⟩ := act_at HA.out Hl.out rfl k a ha
      subst hA
      have Hk := Lib.hid ha
      clear ha
      have hlI : (k : Int) < (l.length : Int) := by omega
      have hkI : (k : Int) < 10 := by omega
      obtain ⟨m1, m2⟩ := tmod_lt' a.off 4 (by omega)
      have hn : σ.n < 100000 := by have := HI.out.n; omega
      have HI' := Lib.hid (HI.out.write ⟨0, a.off.tmod 4, a.n, a.text⟩ m1 m2)
      have HX := Lib.hid (fun n => do_write (HA.out.drewN n) hn ⟨0, a.off.tmod 4, a.n, a.text⟩ (by show (0 : Int) % 8 < 4; decide))
      go_wp2_with fail
      go_region_held3 (fun w' => w'.cell? ⟨b, off + k * 4 + 1, none⟩ = some (.int .i64 a.off) ∧ w'.cell? ⟨b, off + k * 4 + 2, none⟩ = some (.int .i64 a.n) ∧ w'.cell? ⟨b, off + k * 4 + 3, none⟩ = some (.string a.text)) (first | exact ⟨x1, x2, x3⟩ | exact ⟨y1, y2, y3⟩)
        (first
          | (go_at_call 23; refine (HX.out 1).mono ?_; rintro e w5 ⟨rfl, h5⟩; have H5 := Lib.hid h5; obtain ⟨_, _, hAy, _, y1, y2, y3⟩ := act_at H5.out Hl.out rfl k a Hk.out; injection hAy with hAy; injection hAy with hb1 hb2; subst hb1 hb2; clear h5))
      go_wp2
      exact ⟨⟨k + 1, _, gd, gm, by omega, HI', by go_num, H5⟩, by simp [intOf]; omega⟩
    · have hor : ¬ ((k : Int) < (l.length : Int)) ∨ ((k : Int) < (l.length : Int) ∧ ¬ ((k : Int) < 10)) := by omega
      clear hlt
      have c50 := HA.out.cell 0 rfl 0 _ rfl
      have hlim := HI.out.lim
      have hnn := HI.out.n
      have hnow := HI.out.now
      have b1 : 0 ≤ t0 % 100 := by omega
      have b2 : t0 % 100 < 100 := by omega
      have hM1 : 0 ≤ t1 % 150 := by omega
      have hM2 : t1 % 150 < 150 := by omega
      obtain ⟨o, ho⟩ : ∃ o : Nat, (σ.now.length : Int) + t0 % 100 = (o : Int) := ⟨σ.now.length + (t0 % 100).toNat, by omega⟩
      have ho1 : σ.now.length ≤ o := by omega
      have ho2 : o ≤ 303 := by omega
      have E1 := Lib.hid (DS.syncE_ok hlim)
      have L2 : σ.sync.lim = false := by rw [DS.sync_lim]; exact hlim
      have hnow2 : σ.sync.now = σ.now := by rw [DS.sync_ok hlim]; rfl
      have E2 := Lib.hid (show σ.sync.writeE (o : Int) (str (List.replicate (t1 % 150).toNat 121)).data.toList = 0 from DS.writeE_ok L2 (by omega) (by rw [str_data]; simp; omega))
      have E3 := Lib.hid (show ((σ.sync.write (o : Int) (str (List.replicate (t1 % 150).toNat 121)).data.toList).crash qa).read 0 (σ.now.length : Int) = σ.sync.read 0 (σ.now.length : Int) from synced_read σ hlim o _ qa ho1 (by rw [str_data]; simp; omega))
      have E4 := Lib.hid (show (σ.sync.now.length : Int) = (σ.now.length : Int) by rw [hnow2])
      have n2 : σ.sync.n ≤ 11 := by have := DS.sync_n σ; omega
      clear hlim L2 hnow2 HI
      rcases hor with h1 | ⟨h1, h2⟩
      all_goals
        go_wp2_with fail
        refine (at_sync_c HA.out 1 rfl (by omega) 0 E1.out _ rfl).mono ?_
        rintro e w6 ⟨rfl, h6⟩
        have c60 := h6.cell 0 rfl 0 _ rfl
        have H6 := Lib.hid h6
        clear h6
        generalize σ.sync = τ at *
        go_wp2_with fail
        refine (at_size_c H6.out 1 rfl _ E4.out).mono ?_
        rintro e w6' ⟨rfl, rfl⟩
        go_wp2_with fail
        refine (at_read H6.out 1 rfl _ _).mono ?_
        rintro e w7 ⟨rfl, h7⟩
        have c70 := h7.cell 0 rfl 0 _ rfl
        have d70 := h7.cell 3 rfl 0 _ rfl
        have d71 := h7.cell 3 rfl 1 _ rfl
        have H7 := Lib.hid h7
        clear h7 c60
        have q1 : IntKind.i64.wrap (o : Int) = (o : Int) := IntWalk.i64_in _ (by omega)
        go_wp2_with fail
        go_region_held3 (fun w' => w'.cell? ⟨gx, 0, none⟩ = some (.pointer (some ⟨gd, 0, none⟩)) ∧ w'.cell? ⟨gt, 0, none⟩ = some (.int .i64 t0) ∧ w'.cell? ⟨gt, 1, none⟩ = some (.int .i64 t1)) (first | exact ⟨c70, d70, d71⟩ | exact ⟨c80, d80, d81⟩ | exact ⟨c90, d90, d91⟩)
          (first
            | (go_at_call 29; refine (mod_any _ _ _ (by decide) (by decide)).mono ?_; rintro e w8 ⟨rfl, rfl⟩)
            | (go_at_call 33; refine (at_repeated_i H7.out.drew 121 (t1 % 150) (by omega) (by omega)).mono ?_; rintro e w8 ⟨rfl, h8⟩; have c80 := h8.cell 0 rfl 0 _ rfl; have d80 := h8.cell 3 rfl 0 _ rfl; have d81 := h8.cell 3 rfl 1 _ rfl; have H8 := Lib.hid h8; clear h8)
            | (go_at_call 34; refine (at_write_c H8.out 1 rfl (by omega) _ _ 0 E2.out _ rfl).mono ?_; rintro e w9 ⟨rfl, h9⟩; have c90 := h9.cell 0 rfl 0 _ rfl; have d90 := h9.cell 3 rfl 0 _ rfl; have d91 := h9.cell 3 rfl 1 _ rfl; have H9 := Lib.hid h9; clear h9))
        clear q1
        go_wp2_with fail
        refine (at_crash H9.out 1 rfl _ qa (H9.out.reads Ha.out)).mono ?_
        rintro e w10 ⟨rfl, h10⟩
        have H10 := Lib.hid h10
        clear h10
        go_wp2_with fail
        refine (at_read_c H10.out 0 rfl _ _ (str (τ.read 0 (σ.now.length : Int))) (congrArg str E3.out)).mono ?_
        rintro e w11 ⟨rfl, h11⟩
        have H11 := Lib.hid h11
        clear h11
        go_wp2_with fail
        go_ret
        exact ⟨rfl, H11.out.below⟩

set_option maxRecDepth 100000 in
theorem diskSynced_lifted (os : Os) (started : os.Started) (H : Type) (enc : TypeId × Value → H) :
    ReturnsInHanded {} Try.checked os 6 .any (Rows.diskSyncedSpec.pre6 enc Try.prog Try.f6 Rows.diskSyncedRow.domain false) (Rows.diskSyncedSpec.post enc Try.prog Try.f6 false true false false) := by
  refine returnsInHanded_of_change (C := Try.checked) own_knob started (by kernel_rfl) Try.func6
    (ChangeSpec.witness6 (enc := enc) (C := Try.checked) false ⟨#[], #[.slice none 0 0, .agg #[.int .i64 0, .int .i64 0], .slice none 0 0], []⟩ 8 (by kernel_rfl) (by kernel_rfl) (by kernel_rfl) (by kernel_rfl)) ?_
  intro W base args ds gs before hval0 hW hcnd _
  have hval : ∀ (j : Nat) t v, Try.f6.params[j]? = some t → args[j]? = some v → Value.okWide Try.prog W .any base t v := hval0
  have hW' := hW
  obtain ⟨p, q, hA0, hV, rfl, hfz, hnd⟩ := hW
  have hA : DataW.TrodAll enc Try.prog W 0 (fun _ => true) true Try.f6.params.toList args.toList ds p := hA0
  rw [Try.params6] at hA hval
  obtain ⟨v0, vs0, d0, ds0, p0, q0, hargs, rfl, rfl, h0, r0⟩ := trodAll_cons hA
  obtain ⟨v1, vs1, d1, ds1, p1, q1, rfl, rfl, rfl, h1, r1⟩ := trodAll_cons r0
  obtain ⟨v2, vs2, d2, ds2, p2, q2, rfl, rfl, rfl, h2, r2⟩ := trodAll_cons r1
  obtain ⟨rfl, rfl, rfl⟩ := trodAll_nil r2
  obtain rfl : args = #[v0, v1, v2] := by cases args; simp_all
  obtain ⟨rfl, rfl⟩ := trodVars_none hV
  clear hA0 hval0
  have lt0 : ∀ x ∈ p0, x.block < W.heap.size := by obtain ⟨m, hm⟩ := h0; exact DataW.trod_lt m _ _ _ hm
  obtain ⟨l0, R0⟩ := arg_acts (hval 0 22 v0 rfl rfl) h0
  have lt1 : ∀ x ∈ p1, x.block < W.heap.size := by obtain ⟨m, hm⟩ := h1; exact DataW.trod_lt m _ _ _ hm
  obtain ⟨a1, b1, e1, ba1, bb1⟩ := arg_two (hval 1 42 v1 rfl rfl) h1
  subst e1
  have lt2 : ∀ x ∈ p2, x.block < W.heap.size := by obtain ⟨m, hm⟩ := h2; exact DataW.trod_lt m _ _ _ hm
  obtain ⟨l2, R2⟩ := arg_ints (hval 2 36 v2 rfl rfl) h2
  refine (diskSynced_walk W v0 l0 R0 a1 b1 ba1 bb1 v2 l2 R2).mono fun e W' ⟨he, bel⟩ => ?_
  subst he
  exact ⟨_, rfl, _, _, _, [], _, [], hW', trodAll_mk1 (shut_bool Try.underlying4 _), (trodAll_cons_mk (Below.trod laid_out (by kernel_rfl) (of_decide_eq_true (by kernel_rfl)) h0 bel lt0) (trodAll_cons_mk (Below.trod laid_out (by kernel_rfl) (of_decide_eq_true (by kernel_rfl)) h1 bel lt1) (trodAll_cons_mk (Below.trod laid_out (by kernel_rfl) (of_decide_eq_true (by kernel_rfl)) h2 bel lt2) trodAll_mk0))), rfl, bel.frame _, fun h => by cases h⟩

theorem diskSynced_holds : Rows.DiskSyncedSaid :=
  OpenClaim.holds_of_wide 6 Try.f6 rfl rfl rfl rfl rfl rfl rfl ⟨rfl, rfl, rfl, rfl, rfl⟩ rfl rfl rfl rfl rfl (by kernel_rfl) Try.func6 (by kernel_rfl)
    (of_decide_eq_true (by kernel_rfl)) (by unfold Func.isWrapper; first | (rw [if_pos (by decide +kernel)]; kernel_rfl) | (rw [if_neg (by decide +kernel)]; exact ⟨rfl, rfl⟩))
    (fun os started H enc _ => diskSynced_lifted os started H enc)
#print axioms diskSynced_holds
end Go.Proofs.Ytnfmcmjfpbmloaa
