/-
  Proved: for all sizes JournalFull returns true, and changes nothing that was there before the call. No conditions.
-/
import Derived.Test.YtnfmcmjfpbmloaaJrO
namespace Go.Proofs.Ytnfmcmjfpbmloaa
open Go.RowKit Go.ChangeShapes Go.WideShapes Go.ChangeAt Go.Deep
open Go.ChangeMaps (open_string shut_string)

set_option maxRecDepth 100000 in
theorem arg_u32s {H : Type} {enc : TypeId × Value → H} {W : World} {base : Nat} {v : Value} {d : DataW H} {p : List MemPlace} (hv : Value.okWide Try.prog W .any base 83 v) (h : DataW.Trod enc Try.prog W 0 (fun _ => true) true 83 v d p) : ∃ q : List Int, NumsIn .u32 W v q := arg_nums Try.underlying83 Try.underlying50 (by kernel_rfl) hv h

theorem nums_at {k : IntKind} {w0 w : World} {L : List HP} {A : Option Addr} {n c : Nat} {l : List Int} (h : At w0 w L) (hr : NumsIn k w0 (.slice A n c) l) (hl : l.length = n) (j : Nat) (x : Int) (hk : l[j]? = some x) : ∃ b off, A = some ⟨b, off, none⟩ ∧ w.cell? ⟨b, off + j, none⟩ = some (.int k x) ∧ (Lit.int k x).wf = true := by
  have hkl : j < l.length := (List.getElem?_eq_some_iff.1 hk).1
  have hr1 := hr.1
  rw [hl] at hr1
  obtain ⟨b, off, rfl, hb, hc⟩ := hr1.elem (by omega) (by omega)
  refine ⟨b, off, rfl, ?_, hr.2 x (List.mem_of_getElem? hk)⟩
  rw [h.below.cell (p := ⟨b, off + j, none⟩) hb, hc j (by simp; omega)]
  simp [hk]

/-- A text of zeros, cut out of a great row of them. -/
theorem cv_row {w0 w : World} {L : List HP} {tb N : Nat} {Z : Array Value} (h : At w0 w L) (i : Nat) (hi : L[i]? = some (bl tb 5 Z)) (hZ : ∀ j, j < N → Z[j]? = some (.int .u8 0)) (n c : Nat) (hn : n ≤ N) :
    (convert 56 9 (.slice (some ⟨tb, 0, none⟩) n c)).run Try.prog w = .ok (.string (str (List.replicate n 0))) w := by
  refine run_string (l := List.replicate n 0) (e := 5) (by kernel_rfl) (by kernel_rfl) (by kernel_rfl) ?_ (fun ad h => by injection h with h; subst h; rfl)
  refine ⟨some ⟨tb, 0, none⟩, c, rfl, by simp [bys], fun _ => ⟨⟨tb, 0, none⟩, rfl, fun j u hu => ?_⟩⟩
  rw [bys_replicate, List.getElem?_replicate] at hu
  split at hu
  · injection hu with hu
    subst hu
    rw [Addr.add_lit, Nat.zero_add]
    exact h.cell i hi j _ (hZ j (by omega))
  · cases hu

/-- What Append makes of a text of zeros. -/
def ZPost (w0 : World) (L : List HP) (jb g : Nat) (l : List (List UInt8)) (e n : Nat) (σ : DS) (r : Ending) (w' : World) : Prop :=
  (16777216 < bs l + n + 16 + 256 ∧ r = .returned (.int .i64 2) ∧ At w0 w' (jn jb g l.length (bs l) e false :: dk g σ :: L)) ∨
  (bs l + n + 16 + 256 ≤ 16777216 ∧ r = .returned (.int .i64 0) ∧ ∃ σ' e' l', l'.length = l.length + 1 ∧ bs l' = bs l + n + 16 ∧ (GJ σ' l' e' ∧ σ'.lim = false ∧ σ'.n ≤ σ.n + 4) ∧ At w0 w' (jn jb g l'.length (bs l') e' false :: dk g σ' :: L))
theorem at_zeros {w0 w : World} {L : List HP} {g jb : Nat} {σ : DS} {l : List (List UInt8)} {e : Nat} (h : At w0 w (jn jb g l.length (bs l) e false :: dk g σ :: L)) (hG : GJ σ l e) (hl : σ.lim = false) (n : Nat) (hn : σ.n < 50000) (hb : bs l ≤ 16777216) (hn2 : n ≤ 16777216) :
    Calls Try.prog 43 #[.pointer (some ⟨jb, 0, none⟩), .string (str (List.replicate n 0))] w (ZPost w0 L jb g l e n σ) := by
  have hsz : (str (List.replicate n 0)).size = n := by rw [str_size, List.length_replicate]
  by_cases hf : 16777216 < bs l + n + 16 + 256
  · refine (append_many h _ (by omega) (by omega) (by rw [hsz]; omega) (by rw [hsz]; omega)).mono ?_
    rintro r w' ⟨rfl, hA⟩
    exact .inl ⟨hf, rfl, hA⟩
  · refine (at_appendJ h hG hl _ hn (by rw [hsz]; omega)).mono ?_
    rintro r w' ⟨σ', e', rfl, hG', hA⟩
    refine .inr ⟨by omega, rfl, σ', e', l ++ [(str (List.replicate n 0)).data.toList], by simp, ?_, hG'.out, hA.out⟩
    rw [bs_append]
    simp only [bs, str_data, List.length_replicate]
    omega

set_option maxRecDepth 100000 in
set_option maxHeartbeats 8000000 in
theorem journalFull_walk (w : World) (v : Value) (q : List Int) (hq : NumsIn .u32 w v q) (a : Int) (ha0 : 0 ≤ a) (ha1 : a < 4294967296) :
    Calls Try.prog 18 #[v, .int .u32 a] w fun e w' => e = .returned (.bool true) ∧ Below w.heap.size w w' := by
  have hq0 := hq
  obtain ⟨⟨A0, c0, rfl, -, -⟩, -⟩ := hq
  have Hq := Lib.hid hq0
  clear hq0
  obtain ⟨Z, hZ⟩ : ∃ Z : Array Value, madeCells #[.int .u8 0] 16777216 = Z := ⟨_, rfl⟩
  have hmk : ∀ W : World, (Instr.makeSlice 56 (.int .i64 16777216) (.int .i64 16777216)).run Try.prog W = .ok (.slice (some ⟨W.heap.size, 0, none⟩) 16777216 16777216) (W.alloc (.cells Z 5)) := by
    intro W
    rw [← hZ]
    exact mk_bytes 16777216 (by omega) W
  have HZ : Hid (∀ j, j < 16777216 → Z[j]? = some (.int .u8 0)) := by
    intro j hj
    rw [← hZ, ← Array.getElem?_toList, toList_madeCells_one, List.getElem?_replicate, if_pos hj]
  clear hZ
  obtain ⟨b2, hb2⟩ : ∃ b2 : Nat, a % 16777216 = (b2 : Int) := ⟨(a % 16777216).toNat, by omega⟩
  have hb2l : b2 < 16777216 := by omega
  go_enter Try.func18, Try.ntmps18
  go_wp2_with fail
  refine (sanity34_any _).mono ?_
  rintro e w1 ⟨rfl, hb⟩
  have HA4 := Lib.hid ((At.start w).keep (Turns.below (S := No) hb))
  clear hb
  go_wp2_with fail
  refine (at_new HA4.out).mono ?_
  rintro r w5 ⟨rfl, h5⟩
  have HA5 := Lib.hid h5
  clear h5 HA4
  generalize w1.heap.size = gd at *
  go_wp2_with fail
  refine (at_openJ HA5.out (by decide) rfl holds_nil).mono ?_
  rintro r w6 ⟨jb, A, c, σ1, rfl, HG1, HA6⟩
  clear HA5
  have h7 := (at_alloc HA6.out 5 Z).perm (List.perm_append_comm (l₁ := [bl w6.heap.size 5 Z]) (l₂ := [_, _, _]))
  obtain ⟨tb, htb⟩ : ∃ tb, w6.heap.size = tb := ⟨_, rfl⟩
  rw [htb] at h7
  have HA7 := Lib.hid h7
  clear h7 HA6
  go_wp2_with fail
  generalize w6.alloc (.cells Z 5) = w7 at *
  clear hmk htb
  go_loopw [10, 11, 13] (fun x y i wr => ∃ (k : Nat) (σ : DS) (e : Nat) (l : List (List UInt8)) (X Y : Int), k ≤ 6 ∧ i = .int .i64 (k : Int) ∧ x = .int .i64 X ∧ y = .int .i64 Y ∧ 0 ≤ X ∧ X ≤ 16777216 ∧ 0 ≤ Y ∧ Y ≤ 6 ∧ Hid (X = (bs l : Int) ∧ Y = (l.length : Int) ∧ l.length ≤ k) ∧ Hid (GJ σ l e ∧ σ.lim = false ∧ σ.n ≤ 4 * k + 5) ∧
    Hid (At w wr (jn jb gd l.length (bs l) e false :: dk gd σ :: [sl (.slice A ([] : List (List UInt8)).length c) [], bl tb 5 Z]))) (fun _ _ i _ => 6 - (intOf i).toNat)
  case atStart => exact ⟨0, σ1, 64, [], 0, 0, by omega, rfl, rfl, rfl, by omega, by omega, by omega, by omega, ⟨rfl, rfl, Nat.le_refl _⟩, ⟨HG1.out.1, HG1.out.2.1, by have := HG1.out.2.2; have : DS.new.n = 0 := rfl; show σ1.n ≤ _; omega⟩, HA7⟩
  case round =>
    obtain ⟨k, σ, e, l, X, Y, hk6, rfl, rfl, rfl, hX0, hX1, hY0, hY1, HXY, HG, HA⟩ := hrel
    have hbl : bs l ≤ 16777216 := by have := HXY.out.1; omega
    by_cases hlt : k < q.length ∧ k < 6
    · obtain ⟨hlt, hk40⟩ := hlt
      obtain ⟨s, hs⟩ : ∃ s, q[k]? = some s := ⟨_, List.getElem?_eq_getElem hlt⟩
      obtain ⟨b1, o1, hA, x0, hwf⟩ := nums_at HA.out Hq.out rfl k s hs
      subst hA
      have hbs := bounds_u32 hwf
      clear hs hwf
      obtain ⟨n, hn⟩ : ∃ n : Nat, s % 8388608 = (n : Int) := ⟨(s % 8388608).toNat, by omega⟩
      have hn1 : n < 8388608 := by omega
      have hnI : (n : Int) ≤ 16777216 := by omega
      have hlI : (k : Int) < (q.length : Int) := by omega
      have hkI : (k : Int) < 6 := by omega
      have hcv := cv_row HA.out 3 rfl HZ.out n 16777216 (by omega)
      go_wp2_with fail
      refine (at_zeros HA.out HG.out.1 HG.out.2.1 n (by have := HG.out.2.2; omega) hbl (by omega)).mono ?_
      rintro r w8 (⟨hf, rfl, h8⟩ | ⟨hf, rfl, σ', e', l', hl1, hl2, hG', h8⟩)
      · have HA8 := Lib.hid h8
        have hfI : 16777216 < X + (n : Int) + 16 + 256 := by have := HXY.out.1; omega
        have HXY2 : Hid (X = (bs l : Int) ∧ Y = (l.length : Int) ∧ l.length ≤ k + 1) := ⟨HXY.out.1, HXY.out.2.1, by have := HXY.out.2.2; show l.length ≤ _; omega⟩
        have HG2 : Hid (GJ σ l e ∧ σ.lim = false ∧ σ.n ≤ 4 * (k + 1) + 5) := ⟨HG.out.1, HG.out.2.1, by have := HG.out.2.2; show σ.n ≤ _; omega⟩
        clear h8 HA hcv hf HXY HG hbl
        go_wp2_with fail
        exact ⟨⟨k + 1, σ, e, l, X, Y, by omega, by go_num, rfl, rfl, by omega, by omega, by omega, by omega, HXY2, HG2, HA8⟩, by simp [intOf]; omega⟩
      · have HA8 := Lib.hid h8
        have hfI : ¬ (16777216 < X + (n : Int) + 16 + 256) := by have := HXY.out.1; omega
        have HXY2 : Hid (X + (n : Int) + 16 = (bs l' : Int) ∧ Y + 1 = (l'.length : Int) ∧ l'.length ≤ k + 1) := by
          obtain ⟨h1, h2, h3⟩ := HXY.out
          exact ⟨by omega, by omega, by omega⟩
        have hY6 : Y + 1 ≤ 6 := by obtain ⟨h1, h2, h3⟩ := HXY.out; omega
        have HG2 : Hid (GJ σ' l' e' ∧ σ'.lim = false ∧ σ'.n ≤ 4 * (k + 1) + 5) := ⟨hG'.1, hG'.2.1, by have := HG.out.2.2; have := hG'.2.2; show σ'.n ≤ _; omega⟩
        clear h8 HA hcv hf HXY HG hbl hG' hl1 hl2
        go_wp2_with fail
        exact ⟨⟨k + 1, σ', e', l', X + (n : Int) + 16, Y + 1, by omega, by go_num, rfl, rfl, by omega, by omega, by omega, by omega, HXY2, HG2, HA8⟩, by simp [intOf]; omega⟩
    · have hor : (¬ ((k : Int) < (q.length : Int)) ∧ k ≤ 6) ∨ ((k : Int) < (q.length : Int) ∧ ¬ ((k : Int) < 6)) := by omega
      have hnI : (b2 : Int) ≤ 16777216 := by omega
      have hcv := cv_row HA.out 3 rfl HZ.out b2 16777216 (by omega)
      clear hlt
      rcases hor with ⟨h1, _⟩ | ⟨h1, h2⟩
      all_goals
        go_wp2_with fail
        refine (at_zeros HA.out HG.out.1 HG.out.2.1 b2 (by have := HG.out.2.2; omega) hbl (by omega)).mono ?_
        rintro r w8 (⟨hf, rfl, h8⟩ | ⟨hf, rfl, σ', e', l', hl1, hl2, hG', h8⟩)
        · have HA8 := Lib.hid h8
          have hfI : 16777216 < X + (b2 : Int) + 16 + 256 := by have := HXY.out.1; omega
          have hfJ : ¬ (X + (b2 : Int) + 16 + 256 ≤ 16777216) := by omega
          have HYL := Lib.hid HXY.out.2.1
          clear h8 HA hcv hf HXY hbl
          go_wp2_with fail
          refine (at_crash HA8.out 1 rfl _ [] (reads_nil _)).mono ?_
          rintro r w10 ⟨rfl, h10⟩
          have HA10 := Lib.hid h10
          clear h10
          generalize w8.heap.size = gc at *
          go_wp2_with fail
          refine (at_openJ HA10.out (show (0 : Nat) < _ by decide) rfl (HG.out.1.crash_holds [])).mono ?_
          rintro r w11 ⟨jb2, A2, c2, σ4, rfl, HG4, HA11⟩
          have hYL : (l.length : Int) = Y := HYL.out.symm
          go_wp2_with fail
          refine (many_any HA11.out 3 rfl).mono ?_
          rintro r w11' ⟨rfl, rfl⟩
          go_wp2_with fail
          go_ret
          exact ⟨rfl, HA11.out.below⟩
        · have HA8 := Lib.hid h8
          have hfI : X + (b2 : Int) + 16 + 256 ≤ 16777216 := by have := HXY.out.1; omega
          have HYL := Lib.hid (show Y + 1 = (l'.length : Int) by have := HXY.out.2.1; omega)
          have HGG := Lib.hid hG'
          clear h8 HA hcv hf HXY hbl hG' hl1 hl2
          go_wp2_with fail
          refine (at_crash HA8.out 1 rfl _ [] (reads_nil _)).mono ?_
          rintro r w10 ⟨rfl, h10⟩
          have HA10 := Lib.hid h10
          clear h10
          generalize w8.heap.size = gc at *
          go_wp2_with fail
          refine (at_openJ HA10.out (show (0 : Nat) < _ by decide) rfl (HGG.out.1.crash_holds [])).mono ?_
          rintro r w11 ⟨jb2, A2, c2, σ4, rfl, HG4, HA11⟩
          have hYL : (l'.length : Int) = Y + 1 := HYL.out.symm
          go_wp2_with fail
          refine (many_any HA11.out 3 rfl).mono ?_
          rintro r w11' ⟨rfl, rfl⟩
          go_wp2_with fail
          go_ret
          exact ⟨rfl, HA11.out.below⟩

set_option maxRecDepth 100000 in
theorem journalFull_lifted (os : Os) (started : os.Started) (H : Type) (enc : TypeId × Value → H) :
    ReturnsInHanded {} Try.checked os 18 .any (Rows.journalFullSpec.pre6 enc Try.prog Try.f18 Rows.journalFullRow.domain false) (Rows.journalFullSpec.post enc Try.prog Try.f18 false true false false) := by
  refine returnsInHanded_of_change (C := Try.checked) own_knob started (by kernel_rfl) Try.func18
    (ChangeSpec.witness6 (enc := enc) (C := Try.checked) false ⟨#[], #[.slice none 0 0, .int .u32 0], []⟩ 8 (by kernel_rfl) (by kernel_rfl) (by kernel_rfl) (by kernel_rfl)) ?_
  intro W base args ds gs before hval0 hW hcnd _
  have hval : ∀ (j : Nat) t v, Try.f18.params[j]? = some t → args[j]? = some v → Value.okWide Try.prog W .any base t v := hval0
  have hW' := hW
  obtain ⟨p, q, hA0, hV, rfl, hfz, hnd⟩ := hW
  have hA : DataW.TrodAll enc Try.prog W 0 (fun _ => true) true Try.f18.params.toList args.toList ds p := hA0
  rw [Try.params18] at hA hval
  obtain ⟨v0, vs0, d0, ds0, p0, q0, hargs, rfl, rfl, h0, r0⟩ := trodAll_cons hA
  obtain ⟨v1, vs1, d1, ds1, p1, q1, rfl, rfl, rfl, h1, r1⟩ := trodAll_cons r0
  obtain ⟨rfl, rfl, rfl⟩ := trodAll_nil r1
  obtain rfl : args = #[v0, v1] := by cases args; simp_all
  obtain ⟨rfl, rfl⟩ := trodVars_none hV
  clear hA0 hval0
  have lt0 : ∀ x ∈ p0, x.block < W.heap.size := by obtain ⟨m, hm⟩ := h0; exact DataW.trod_lt m _ _ _ hm
  obtain ⟨l0, R0⟩ := arg_u32s (hval 0 83 v0 rfl rfl) h0
  have lt1 : ∀ x ∈ p1, x.block < W.heap.size := by obtain ⟨m, hm⟩ := h1; exact DataW.trod_lt m _ _ _ hm
  obtain ⟨a1, e1, _, _, w1⟩ := open_int Try.underlying50 (hval 1 50 v1 rfl rfl) h1
  have b1 := bounds_u32 w1
  subst e1
  refine (journalFull_walk W v0 l0 R0 a1 (by omega) (by omega)).mono fun e W' ⟨he, bel⟩ => ?_
  subst he
  exact ⟨_, rfl, _, _, _, [], _, [], hW', trodAll_mk1 (shut_bool Try.underlying4 _), (trodAll_cons_mk (Below.trod laid_out (by kernel_rfl) (of_decide_eq_true (by kernel_rfl)) h0 bel lt0) (trodAll_cons_mk (Below.trod laid_out (by kernel_rfl) (of_decide_eq_true (by kernel_rfl)) h1 bel lt1) trodAll_mk0)), rfl, bel.frame _, fun h => by cases h⟩

theorem journalFull_holds : Rows.JournalFullSaid :=
  OpenClaim.holds_of_wide 18 Try.f18 rfl rfl rfl rfl rfl rfl rfl ⟨rfl, rfl, rfl, rfl, rfl⟩ rfl rfl rfl rfl rfl (by kernel_rfl) Try.func18 (by kernel_rfl)
    (of_decide_eq_true (by kernel_rfl)) (by unfold Func.isWrapper; first | (rw [if_pos (by decide +kernel)]; kernel_rfl) | (rw [if_neg (by decide +kernel)]; exact ⟨rfl, rfl⟩))
    (fun os started H enc _ => journalFull_lifted os started H enc)
#print axioms journalFull_holds
end Go.Proofs.Ytnfmcmjfpbmloaa
