/-
  Proved: for all records and all numbers JournalKeeps returns true, and changes nothing that was there before the call. No conditions.
-/
import Derived.Test.YtnfmcmjfpbmloaaJrR
namespace Go.Proofs.Ytnfmcmjfpbmloaa
open Go.RowKit Go.ChangeShapes Go.WideShapes Go.ChangeAt
open Go.ChangeMaps (open_string shut_string)

set_option maxRecDepth 100000 in
set_option maxHeartbeats 8000000 in
theorem journalKeeps_walk (w : World) (v : Value) (l : List ByteArray) (hl : StrsIn w v l) (ag : Int) (_hag0 : 0 ≤ ag) (_hag1 : ag < 4294967296) (cr : Int) (_hcr0 : 0 ≤ cr) (_hcr1 : cr < 4294967296) :
    Calls Try.prog 13 #[v, .int .u32 ag, .int .u32 cr] w fun e w' => e = .returned (.bool true) ∧ Below w.heap.size w w' := by
  have hl0 := hl
  obtain ⟨⟨A0, c0, rfl, -, -⟩, -⟩ := hl
  have Hl := Lib.hid hl0
  clear hl0
  go_enter Try.func13, Try.ntmps13
  go_wp2_with fail
  refine (sanity34_any _).mono ?_
  rintro e w1 ⟨rfl, hb⟩
  have HA4 := Lib.hid ((At.start w).keep (Turns.below (S := No) hb))
  clear hb
  go_wp2_with fail
  refine (at_new HA4.out).mono ?_
  rintro r w5 ⟨rfl, h5⟩
  have HA5 := Lib.hid h5
  clear h5 HA4
  generalize w1.heap.size = gd at *
  go_wp2_with fail
  refine (at_openJ HA5.out (by decide) rfl holds_nil).mono ?_
  rintro r w6 ⟨jb, A, c, σ1, rfl, HG1, HA6⟩
  clear HA5
  go_wp2_with fail
  refine (rnew34_any (HA6.out.front 2 rfl).tail).mono ?_
  rintro r w7 ⟨rfl, h7⟩
  obtain ⟨AL, cL, vM, h7⟩ := rj_back h7
  have HA7 := Lib.hid h7
  clear h7 HA6
  generalize w6.heap.size = gm at *
  go_wp2_with fail
  go_loopw [8, 9, 11, 13] (fun d j ec i wr => ∃ (k : Nat) (L : List (List UInt8)) (σ : DS) (e jb gd cL : Nat) (AL : Option Addr) (vM : Value), k ≤ 20 ∧ k ≤ l.length ∧ d = .pointer (some ⟨gd, 0, none⟩) ∧ j = .pointer (some ⟨jb, 0, none⟩) ∧ ec = .int .i64 0 ∧ i = .int .i64 (k : Int) ∧ Hid (GJ σ L e ∧ σ.lim = false ∧ σ.n ≤ 6 * k + 5 ∧ L.length ≤ k ∧ bs L ≤ k * 216) ∧
    Hid (At w wr (jn jb gd L.length (bs L) e false :: dk gd σ :: rjL gm (.slice AL L.length cL) vM L [] false (bs L) []))) (fun _ _ _ i _ => 20 - (intOf i).toNat)
  case atStart => exact ⟨0, [], σ1, 64, jb, gd, cL, AL, vM, by omega, by omega, rfl, rfl, rfl, rfl, ⟨HG1.out.1, HG1.out.2.1, by have := HG1.out.2.2; have : DS.new.n = 0 := rfl; show σ1.n ≤ _; omega, by simp, by simp [bs]⟩, HA7⟩
  case round =>
    clear HA7 HG1
    obtain ⟨k, L, σ, e, jb, gd, cL, AL, vM, hk5, hkl, rfl, rfl, rfl, rfl, HG, HA⟩ := hrel
    by_cases hlt : k < l.length ∧ k < 20
    · obtain ⟨hlt, hk40⟩ := hlt
      obtain ⟨s, hs⟩ : ∃ s, l[k]? = some s := ⟨_, List.getElem?_eq_getElem hlt⟩
      obtain ⟨b1, o1, hA, hcc, hsz⟩ := strs_at2 Hl.out rfl k s hs
      subst hA
      have HCC : Hid (∀ {w' : World} {L' : List HP}, At w w' L' → w'.cell? ⟨b1, o1 + k, none⟩ = some (.string s)) := hcc
      clear hcc hs
      have hlI : (k : Int) < (l.length : Int) := by omega
      have hkI : (k : Int) < 20 := by omega
      have hsr := sh_size s
      have HX := Lib.hid HA.out.drew
      have HSZ := Lib.hid hsz
      clear hsz
      go_wp2_with fail
      refine wp_region_held_drew (S := fun w' => w'.cell? ⟨b1, o1 + k, none⟩ = some (.string s)) (by kernel_rfl) ?_ (fun hHeld => ?_)
      · exact HCC.out HX.out
      refine wpAnyH_take (i := 0) (v := ?_) lit0 (by kernel_rfl) (by kernel_rfl) (by kernel_rfl) (fun _ _ _ h => h) (Or.inl ⟨by rfl, ?_⟩) (by assumption) ?_
      case refine_2 =>
        intro w hSw
        (try dsimp only at hSw)
        go_simp
        try with_reducible rfl
      try simp only [Act.put, List.setIfInBounds_toArray, List.set_cons_zero, List.set_cons_succ]
      refine wpAnyH_take (i := 1) (v := ?_) lit1 (by kernel_rfl) (by kernel_rfl) (by kernel_rfl) (fun _ _ _ h => h) (Or.inl ⟨by rfl, ?_⟩) (by assumption) ?_
      case refine_2 =>
        intro w hSw
        (try dsimp only at hSw)
        go_simp
        try with_reducible rfl
      try simp only [Act.put, List.setIfInBounds_toArray, List.set_cons_zero, List.set_cons_succ]
      refine wpAnyH_take (i := 2) (v := ?_) lit2 (by kernel_rfl) (by kernel_rfl) (by kernel_rfl) (fun _ _ _ h => h) (Or.inl ⟨by rfl, ?_⟩) (by assumption) ?_
      case refine_2 =>
        intro w hSw
        (try dsimp only at hSw)
        go_simp
        try with_reducible rfl
      try simp only [Act.put, List.setIfInBounds_toArray, List.set_cons_zero, List.set_cons_succ]
      refine wpAnyH_take (i := 3) (v := ?_) lit3 (by kernel_rfl) (by kernel_rfl) (by kernel_rfl) (fun _ _ _ h => h) (Or.inl ⟨by rfl, ?_⟩) (by assumption) ?_
      case refine_2 =>
        intro w hSw
        (try dsimp only at hSw)
        go_simp
        try with_reducible rfl
      try simp only [Act.put, List.setIfInBounds_toArray, List.set_cons_zero, List.set_cons_succ]
      refine wpAnyH_take (i := 4) (v := ?_) lit4 (by kernel_rfl) (by kernel_rfl) (by kernel_rfl) (fun _ _ _ h => h) (Or.inl ⟨by rfl, ?_⟩) (by assumption) ?_
      case refine_2 =>
        intro w hSw
        (try dsimp only at hSw)
        go_simp
        try with_reducible rfl
      try simp only [Act.put, List.setIfInBounds_toArray, List.set_cons_zero, List.set_cons_succ]
      refine wpAnyH_take (i := 5) (v := ?_) lit5 (by kernel_rfl) (by kernel_rfl) (by kernel_rfl) (fun _ _ _ h => h) (Or.inl ⟨by rfl, ?_⟩) (by assumption) ?_
      case refine_2 =>
        intro w hSw
        (try dsimp only at hSw)
        go_simp
        try with_reducible rfl
      try simp only [Act.put, List.setIfInBounds_toArray, List.set_cons_zero, List.set_cons_succ]
      refine wpAnyH_take (i := 6) (v := ?_) lit6 (by kernel_rfl) (by kernel_rfl) (by kernel_rfl) (fun _ _ _ h => h) (Or.inl ⟨by rfl, ?_⟩) (by assumption) ?_
      case refine_2 =>
        intro w hSw
        (try dsimp only at hSw)
        go_simp
        try with_reducible rfl
      try simp only [Act.put, List.setIfInBounds_toArray, List.set_cons_zero, List.set_cons_succ]
      refine wpAnyH_take (i := 7) (v := ?_) lit7 (by kernel_rfl) (by kernel_rfl) (by kernel_rfl) (fun _ _ _ h => h) (Or.inl ⟨by rfl, ?_⟩) (by assumption) ?_
      case refine_2 =>
        intro w hSw
        (try dsimp only at hSw)
        go_simp
        try with_reducible rfl
      try simp only [Act.put, List.setIfInBounds_toArray, List.set_cons_zero, List.set_cons_succ]
      refine wpAnyH_take (i := 8) (v := ?_) lit8 (by kernel_rfl) (by kernel_rfl) (by kernel_rfl) (fun _ _ _ h => h) (Or.inl ⟨by rfl, ?_⟩) (by assumption) ?_
      case refine_2 =>
        intro w hSw
        (try dsimp only at hSw)
        go_simp
        try with_reducible rfl
      try simp only [Act.put, List.setIfInBounds_toArray, List.set_cons_zero, List.set_cons_succ]
      refine wpAnyH_take (i := 9) (v := ?_) lit9 (by kernel_rfl) (by kernel_rfl) (by kernel_rfl) (fun _ _ _ h => h) (Or.inl ⟨by rfl, ?_⟩) (by assumption) ?_
      case refine_2 =>
        intro w hSw
        (try dsimp only at hSw)
        go_simp
        try with_reducible rfl
      try simp only [Act.put, List.setIfInBounds_toArray, List.set_cons_zero, List.set_cons_succ]
      refine wpAnyH_take (i := 10) (v := ?_) lit10 (by kernel_rfl) (by kernel_rfl) (by kernel_rfl) (fun _ _ _ h => h) (Or.inl ⟨by rfl, ?_⟩) (by assumption) ?_
      case refine_2 =>
        intro w hSw
        (try dsimp only at hSw)
        go_simp
        try with_reducible rfl
      try simp only [Act.put, List.setIfInBounds_toArray, List.set_cons_zero, List.set_cons_succ]
      refine wpAnyH_take (i := 11) (v := ?_) lit11 (by kernel_rfl) (by kernel_rfl) (by kernel_rfl) (fun _ _ _ h => h) (Or.inl ⟨by rfl, ?_⟩) (by assumption) ?_
      case refine_2 =>
        intro w hSw
        (try dsimp only at hSw)
        go_simp
        try with_reducible rfl
      try simp only [Act.put, List.setIfInBounds_toArray, List.set_cons_zero, List.set_cons_succ]
      refine wpAnyH_take (i := 14) (v := ?_) lit14 (by kernel_rfl) (by kernel_rfl) (by kernel_rfl) (fun _ _ _ h => h) (Or.inl ⟨by rfl, ?_⟩) (by assumption) ?_
      case refine_2 =>
        intro w hSw
        (try dsimp only at hSw)
        go_simp
        try with_reducible rfl
      try simp only [Act.put, List.setIfInBounds_toArray, List.set_cons_zero, List.set_cons_succ]
      refine wpAnyH_take (i := 15) (v := ?_) lit15 (by kernel_rfl) (by kernel_rfl) (by kernel_rfl) (fun _ _ _ h => h) (Or.inl ⟨by rfl, ?_⟩) (by assumption) ?_
      case refine_2 =>
        intro w hSw
        (try dsimp only at hSw)
        go_simp
        try with_reducible rfl
      try simp only [Act.put, List.setIfInBounds_toArray, List.set_cons_zero, List.set_cons_succ]
      refine wpAnyH_take (i := 16) (v := ?_) lit16 (by kernel_rfl) (by kernel_rfl) (by kernel_rfl) (fun _ _ _ h => h) (Or.inl ⟨by rfl, ?_⟩) (by assumption) ?_
      case refine_2 =>
        intro w hSw
        (try dsimp only at hSw)
        go_simp
        try with_reducible rfl
      try simp only [Act.put, List.setIfInBounds_toArray, List.set_cons_zero, List.set_cons_succ]
      refine wpAnyH_take (i := 17) (v := ?_) lit17 (by kernel_rfl) (by kernel_rfl) (by kernel_rfl) (fun _ _ _ h => h) (Or.inl ⟨by rfl, ?_⟩) (by assumption) ?_
      case refine_2 =>
        intro w hSw
        (try dsimp only at hSw)
        go_simp
        try with_reducible rfl
      try simp only [Act.put, List.setIfInBounds_toArray, List.set_cons_zero, List.set_cons_succ]
      refine wpAnyH_take (i := 18) (v := ?_) lit18 (by kernel_rfl) (by kernel_rfl) (by kernel_rfl) (fun _ _ _ h => h) (Or.inl ⟨by rfl, ?_⟩) (by assumption) ?_
      case refine_2 =>
        intro w hSw
        (try dsimp only at hSw)
        go_simp
        try with_reducible rfl
      try simp only [Act.put, List.setIfInBounds_toArray, List.set_cons_zero, List.set_cons_succ]
      refine wpAnyH_ready (rs := [12]) (by kernel_rfl) (by simp) ?_
      refine AllReadyH.cons lit12 (fun K hK => ?_) AllReadyH.nil
      go_simp
      refine (short_any _ s HSZ.out).mono ?_
      rintro r w8 ⟨rfl, rfl⟩
      go_wp2_with fail
      refine hK.out _ _ ?_ (fun hHeld => ?_)
      · exact HCC.out HX.out
      clear hK K
      try simp only [Act.put, List.setIfInBounds_toArray, List.set_cons_zero, List.set_cons_succ]
      refine wpAnyH_ready (rs := [13]) (by kernel_rfl) (by simp) ?_
      refine AllReadyH.cons lit13 (fun K hK => ?_) AllReadyH.nil
      go_simp
      refine (at_appendJ HX.out HG.out.1 HG.out.2.1 (sh s) (by have := HG.out.2.2.1; omega) (by have := HG.out.2.2.2.2; omega)).mono ?_
      rintro r w8 ⟨σ', e', rfl, HG', HA'⟩
      go_wp2_with fail
      refine hK.out _ _ ?_ (fun hHeld => ?_)
      · exact HCC.out HA'.out
      clear hK K
      try simp only [Act.put, List.setIfInBounds_toArray, List.set_cons_zero, List.set_cons_succ]
      refine wpAnyH_ready (rs := [19]) (by kernel_rfl) (by simp) ?_
      refine AllReadyH.cons lit19 (fun K hK => ?_) AllReadyH.nil
      go_simp
      refine (short_any _ s HSZ.out).mono ?_
      rintro r w9 ⟨rfl, rfl⟩
      go_wp2_with fail
      refine hK.out _ _ ?_ (fun hHeld => ?_)
      · exact HCC.out HA'.out
      clear hK K
      try simp only [Act.put, List.setIfInBounds_toArray, List.set_cons_zero, List.set_cons_succ]
      refine wpAnyH_ready (rs := [20]) (by kernel_rfl) (by simp) ?_
      refine AllReadyH.cons lit20 (fun K hK => ?_) AllReadyH.nil
      go_simp
      refine (rappend_yes (rj_front HA'.out) (sh s) (by omega) (by have := HG.out.2.2.2.2; omega) (by omega) (by have := HG.out.2.2.2.1; omega)).mono ?_
      rintro r w9 ⟨rfl, h9⟩
      obtain ⟨AL', cL', vM', h9⟩ := rj_back h9
      have z9 := h9.cell 2 rfl 0 _ rfl
      have HA9 := Lib.hid h9
      clear h9
      go_wp2_with fail
      refine hK.out _ _ ?_ (fun hHeld => ?_)
      · exact HCC.out HA9.out
      clear hK K
      try simp only [Act.put, List.setIfInBounds_toArray, List.set_cons_zero, List.set_cons_succ]
      refine wpAnyH_more (S' := fun w' => w'.cell? ⟨b1, o1 + k, none⟩ = some (.string s) ∧ w'.cell? ⟨gm, 0, none⟩ = some (.slice AL' (L ++ [(sh s).data.toList]).length cL')) (fun _ h => h.1) _ _ _ _ ?_
      have hHeld2 := And.intro hHeld z9
      refine wpAnyH_take (i := 21) (v := ?_) lit21 (by kernel_rfl) (by kernel_rfl) (by kernel_rfl) (fun _ _ _ h => h) (Or.inl ⟨by rfl, ?_⟩) (by assumption) ?_
      case refine_2 =>
        intro w hSw
        (try dsimp only at hSw)
        go_simp
        try with_reducible rfl
      try simp only [Act.put, List.setIfInBounds_toArray, List.set_cons_zero, List.set_cons_succ]
      refine wpAnyH_take (i := 22) (v := ?_) lit22 (by kernel_rfl) (by kernel_rfl) (by kernel_rfl) (fun _ _ _ h => h) (Or.inl ⟨by rfl, ?_⟩) (by assumption) ?_
      case refine_2 =>
        intro w hSw
        (try dsimp only at hSw)
        go_simp
        try with_reducible rfl
      try simp only [Act.put, List.setIfInBounds_toArray, List.set_cons_zero, List.set_cons_succ]
      refine wpAnyH_take (i := 23) (v := ?_) lit23 (by kernel_rfl) (by kernel_rfl) (by kernel_rfl) (fun _ _ _ h => h) (Or.inl ⟨by rfl, ?_⟩) (by assumption) ?_
      case refine_2 =>
        intro w hSw
        (try dsimp only at hSw)
        go_simp
        try with_reducible rfl
      try simp only [Act.put, List.setIfInBounds_toArray, List.set_cons_zero, List.set_cons_succ]
      refine wpAnyH_take (i := 24) (v := ?_) lit24 (by kernel_rfl) (by kernel_rfl) (by kernel_rfl) (fun _ _ _ h => h) (Or.inl ⟨by rfl, ?_⟩) (by assumption) ?_
      case refine_2 =>
        intro w hSw
        (try dsimp only at hSw)
        go_simp
        try with_reducible rfl
      try simp only [Act.put, List.setIfInBounds_toArray, List.set_cons_zero, List.set_cons_succ]
      refine wpAnyH_take (i := 26) (v := ?_) lit26 (by kernel_rfl) (by kernel_rfl) (by kernel_rfl) (fun _ _ _ h => h) (Or.inl ⟨by rfl, ?_⟩) (by assumption) ?_
      case refine_2 =>
        intro w hSw
        (try dsimp only at hSw)
        go_simp
        try with_reducible rfl
      try simp only [Act.put, List.setIfInBounds_toArray, List.set_cons_zero, List.set_cons_succ]
      refine wpAnyH_take (i := 27) (v := ?_) lit27 (by kernel_rfl) (by kernel_rfl) (by kernel_rfl) (fun _ _ _ h => h) (Or.inl ⟨by rfl, ?_⟩) (by assumption) ?_
      case refine_2 =>
        intro w hSw
        (try dsimp only at hSw)
        go_simp
        try with_reducible rfl
      try simp only [Act.put, List.setIfInBounds_toArray, List.set_cons_zero, List.set_cons_succ]
      refine wpAnyH_take (i := 28) (v := ?_) lit28 (by kernel_rfl) (by kernel_rfl) (by kernel_rfl) (fun _ _ _ h => h) (Or.inl ⟨by rfl, ?_⟩) (by assumption) ?_
      case refine_2 =>
        intro w hSw
        (try dsimp only at hSw)
        go_simp
        try with_reducible rfl
      try simp only [Act.put, List.setIfInBounds_toArray, List.set_cons_zero, List.set_cons_succ]
      refine wpAnyH_take (i := 29) (v := ?_) lit29 (by kernel_rfl) (by kernel_rfl) (by kernel_rfl) (fun _ _ _ h => h) (Or.inl ⟨by rfl, ?_⟩) (by assumption) ?_
      case refine_2 =>
        intro w hSw
        (try dsimp only at hSw)
        go_simp
        try with_reducible rfl
      try simp only [Act.put, List.setIfInBounds_toArray, List.set_cons_zero, List.set_cons_succ]
      refine wpAnyH_take (i := 30) (v := ?_) lit30 (by kernel_rfl) (by kernel_rfl) (by kernel_rfl) (fun _ _ _ h => h) (Or.inl ⟨by rfl, ?_⟩) (by assumption) ?_
      case refine_2 =>
        intro w hSw
        (try dsimp only at hSw)
        go_simp
        try with_reducible rfl
      try simp only [Act.put, List.setIfInBounds_toArray, List.set_cons_zero, List.set_cons_succ]
      refine wpAnyH_ready (rs := [25]) (by kernel_rfl) (by simp) ?_
      refine AllReadyH.cons lit25 (fun K hK => ?_) AllReadyH.nil
      go_simp
      refine (many_any HA9.out 0 rfl).mono ?_
      rintro r w10 ⟨rfl, rfl⟩
      go_wp2_with fail
      refine hK.out _ _ ?_ (fun hHeld => ?_)
      · exact And.intro (HCC.out HA9.out) z9
      clear hK K
      try simp only [Act.put, List.setIfInBounds_toArray, List.set_cons_zero, List.set_cons_succ]
      refine wpAnyH_take (i := 31) (v := ?_) lit31 (by kernel_rfl) (by kernel_rfl) (by kernel_rfl) (fun _ _ _ h => h) (Or.inl ⟨by rfl, ?_⟩) (by assumption) ?_
      case refine_2 =>
        intro w hSw
        (try dsimp only at hSw)
        go_simp
        try with_reducible rfl
      try simp only [Act.put, List.setIfInBounds_toArray, List.set_cons_zero, List.set_cons_succ]
      refine wpAnyH_take (i := 32) (v := ?_) lit32 (by kernel_rfl) (by kernel_rfl) (by kernel_rfl) (fun _ _ _ h => h) (Or.inl ⟨by rfl, ?_⟩) (by assumption) ?_
      case refine_2 =>
        intro w hSw
        (try dsimp only at hSw)
        go_simp
        try with_reducible rfl
      try simp only [Act.put, List.setIfInBounds_toArray, List.set_cons_zero, List.set_cons_succ]
      refine wpAnyH_done (by kernel_rfl) ?_ _
      have hsl : (sh s).data.toList.length = (sh s).size := by rw [Array.length_toList]; rfl
      have e2 : (bs L : Int) + ((sh s).size : Int) + 16 = (bs (L ++ [(sh s).data.toList]) : Int) := by rw [bs_append]; simp [bs, hsl]; omega
      have HG2 : Hid (GJ σ' (L ++ [(sh s).data.toList]) e' ∧ σ'.lim = false ∧ σ'.n ≤ 6 * k + 9 ∧ (L ++ [(sh s).data.toList]).length ≤ k + 1 ∧ bs (L ++ [(sh s).data.toList]) ≤ (k + 1) * 216) :=
        ⟨HG'.out.1, HG'.out.2.1, by have := HG'.out.2.2; have := HG.out.2.2.1; omega, by have := HG.out.2.2.2.1; simp; omega, by have := HG.out.2.2.2.2; rw [bs_append]; simp only [bs, hsl]; omega⟩
      have HB0 := HA9.out
      rw [e2] at HB0
      have HB := Lib.hid HB0
      clear HB0 e2 hsl HG' HG HA' HA9 HA HX z9
      clear hHeld hHeld2
      generalize L ++ [(sh s).data.toList] = L2 at *
      go_wp2_with fail
      · refine (at_crash (HB.out.alloc _) 1 rfl _ [(k : Int), (k : Int) / 2] (show Reads _ 1 _ ([(k : Int), (k : Int) / 2]).length (([(k : Int), (k : Int) / 2]).map (.int .i64)) from reads_new w9 3 [.int .i64 (k : Int), .int .i64 ((k : Int) / 2)] 2 1 2 rfl)).mono ?_
        rintro r w11 ⟨rfl, h11⟩
        have HA11 := Lib.hid h11
        clear h11 HB
        generalize (w9.alloc _).heap.size = gc at *
        go_wp2_with fail
        refine (at_openJ HA11.out (show (0 : Nat) < _ by decide) rfl (HG2.out.1.crash_holds _)).mono ?_
        rintro r w12 ⟨jb2, A2, c2, σ2, rfl, HG3, HA12⟩
        have h13 : RJ w w12 gm L2 [] false (bs L2) [jn jb2 gc L2.length (bs L2) e' false, dk gc σ2, sl (.slice A2 L2.length c2) L2, jn jb gd L2.length (bs L2) e' false, dk gd σ'] :=
          ⟨.slice AL' L2.length cL', vM', HA12.out.perm (List.perm_append_comm (l₁ := [jn jb2 gc L2.length (bs L2) e' false, dk gc σ2, sl (.slice A2 L2.length c2) L2, jn jb gd L2.length (bs L2) e' false, dk gd σ']) (l₂ := [bl gm 74 #[.slice AL' L2.length cL', vM', .bool false, .int .i64 (bs L2)], sl (.slice AL' L2.length cL') L2, sl vM' []]))⟩
        have HR := Lib.hid h13
        clear h13 HA12 HA11
        go_wp2_with fail
        refine (opens_same HR.out 2 rfl (by have := HG2.out.2.2.2.1; omega) (by have := HG2.out.2.2.2.1; omega) (by have := HG2.out.2.2.2.2; omega) rfl).mono ?_
        rintro r w14 ⟨rfl, vL', vM2, h14⟩
        have h15 : RJ w w14 gm L2 [] false (bs L2) [jn jb2 gc L2.length (bs L2) e' false, dk gc σ2] := ⟨vL', vM2, (((((h14.front 7 rfl).tail).front 6 rfl).tail).front 5 rfl).tail⟩
        obtain ⟨A5, c5, vM5, h16⟩ := rj_back h15
        have HV := Lib.hid h16
        have hn0 : σ2.n ≤ 1 := HG3.out.2.2
        clear h14 h15 h16 HR
        go_wp2_with fail
        exact ⟨⟨k + 1, L2, σ2, e', jb2, gc, c5, A5, vM5, by omega, by omega, rfl, rfl, rfl, by go_num, ⟨HG3.out.1, HG3.out.2.1, by omega, HG2.out.2.2.2.1, HG2.out.2.2.2.2⟩, HV⟩, by simp [intOf]; omega⟩
      · refine (at_openJ (HB.out.front 1 rfl) (by have := HG2.out.2.2.1; omega) (DS.off_of HG2.out.2.1) HG2.out.1.holds).mono ?_
        rintro r w12 ⟨jb2, A2, c2, σ2, rfl, HG3, HA12⟩
        have h13 : RJ w w12 gm L2 [] false (bs L2) [jn jb2 gd L2.length (bs L2) e' false, dk gd σ2, sl (.slice A2 L2.length c2) L2, jn jb gd L2.length (bs L2) e' false] :=
          ⟨.slice AL' L2.length cL', vM', HA12.out.perm (List.perm_append_comm (l₁ := [jn jb2 gd L2.length (bs L2) e' false, dk gd σ2, sl (.slice A2 L2.length c2) L2, jn jb gd L2.length (bs L2) e' false]) (l₂ := [bl gm 74 #[.slice AL' L2.length cL', vM', .bool false, .int .i64 (bs L2)], sl (.slice AL' L2.length cL') L2, sl vM' []]))⟩
        have HR := Lib.hid h13
        clear h13 HA12 HB
        go_wp2_with fail
        refine (opens_same HR.out 2 rfl (by have := HG2.out.2.2.2.1; omega) (by have := HG2.out.2.2.2.1; omega) (by have := HG2.out.2.2.2.2; omega) rfl).mono ?_
        rintro r w14 ⟨rfl, vL', vM2, h14⟩
        have h15 : RJ w w14 gm L2 [] false (bs L2) [jn jb2 gd L2.length (bs L2) e' false, dk gd σ2] := ⟨vL', vM2, (((h14.front 6 rfl).tail).front 5 rfl).tail⟩
        obtain ⟨A5, c5, vM5, h16⟩ := rj_back h15
        have HV := Lib.hid h16
        clear h14 h15 h16 HR
        go_wp2_with fail
        exact ⟨⟨k + 1, L2, σ2, e', jb2, gd, c5, A5, vM5, by omega, by omega, rfl, rfl, rfl, by go_num, ⟨HG3.out.1, HG3.out.2.1.trans HG2.out.2.1, by have := HG3.out.2.2; have := HG2.out.2.2.1; omega, HG2.out.2.2.2.1, HG2.out.2.2.2.2⟩, HV⟩, by simp [intOf]; omega⟩
      · exact ⟨⟨k + 1, L2, σ', e', jb, gd, cL', AL', vM', by omega, by omega, rfl, rfl, rfl, by go_num, ⟨HG2.out.1, HG2.out.2.1, by have := HG2.out.2.2.1; omega, HG2.out.2.2.2.1, HG2.out.2.2.2.2⟩, HB⟩, by simp [intOf]; omega⟩

    · have hor : (¬ ((k : Int) < (l.length : Int)) ∧ k ≤ 20) ∨ ((k : Int) < (l.length : Int) ∧ ¬ ((k : Int) < 20)) := by omega
      clear hlt
      have z := HA.out.cell 2 rfl 0 _ rfl
      rcases hor with ⟨h1, _⟩ | ⟨h1, h2⟩
      all_goals
        go_wp2_with fail
        go_region_held3 (fun w' => w'.cell? ⟨gm, 0, none⟩ = some (.slice AL L.length cL)) (exact HA.out.drew.cell 2 rfl 0 _ rfl) (first | (go_at_call 46; refine (many_any HA.out.drew 0 rfl).mono ?_; rintro r w10 ⟨rfl, rfl⟩))
        go_wp2_with fail
        go_ret
        exact ⟨rfl, HA.out.drew.below⟩

set_option maxRecDepth 100000 in
theorem journalKeeps_lifted (os : Os) (started : os.Started) (H : Type) (enc : TypeId × Value → H) :
    ReturnsInHanded {} Try.checked os 13 .any (Rows.journalKeepsSpec.pre6 enc Try.prog Try.f13 Rows.journalKeepsRow.domain false) (Rows.journalKeepsSpec.post enc Try.prog Try.f13 false true false false) := by
  refine returnsInHanded_of_change (C := Try.checked) own_knob started (by kernel_rfl) Try.func13
    (ChangeSpec.witness6 (enc := enc) (C := Try.checked) false ⟨#[], #[.slice none 0 0, .int .u32 0, .int .u32 0], []⟩ 8 (by kernel_rfl) (by kernel_rfl) (by kernel_rfl) (by kernel_rfl)) ?_
  intro W base args ds gs before hval0 hW hcnd _
  have hval : ∀ (j : Nat) t v, Try.f13.params[j]? = some t → args[j]? = some v → Value.okWide Try.prog W .any base t v := hval0
  have hW' := hW
  obtain ⟨p, q, hA0, hV, rfl, hfz, hnd⟩ := hW
  have hA : DataW.TrodAll enc Try.prog W 0 (fun _ => true) true Try.f13.params.toList args.toList ds p := hA0
  rw [Try.params13] at hA hval
  obtain ⟨v0, vs0, d0, ds0, p0, q0, hargs, rfl, rfl, h0, r0⟩ := trodAll_cons hA
  obtain ⟨v1, vs1, d1, ds1, p1, q1, rfl, rfl, rfl, h1, r1⟩ := trodAll_cons r0
  obtain ⟨v2, vs2, d2, ds2, p2, q2, rfl, rfl, rfl, h2, r2⟩ := trodAll_cons r1
  obtain ⟨rfl, rfl, rfl⟩ := trodAll_nil r2
  obtain rfl : args = #[v0, v1, v2] := by cases args; simp_all
  obtain ⟨rfl, rfl⟩ := trodVars_none hV
  clear hA0 hval0
  have lt0 : ∀ x ∈ p0, x.block < W.heap.size := by obtain ⟨m, hm⟩ := h0; exact DataW.trod_lt m _ _ _ hm
  obtain ⟨l0, R0⟩ := arg_strs (hval 0 64 v0 rfl rfl) h0
  have lt1 : ∀ x ∈ p1, x.block < W.heap.size := by obtain ⟨m, hm⟩ := h1; exact DataW.trod_lt m _ _ _ hm
  obtain ⟨a1, e1, _, _, w1⟩ := open_int Try.underlying50 (hval 1 50 v1 rfl rfl) h1
  have b1 := bounds_u32 w1
  subst e1
  have lt2 : ∀ x ∈ p2, x.block < W.heap.size := by obtain ⟨m, hm⟩ := h2; exact DataW.trod_lt m _ _ _ hm
  obtain ⟨a2, e2, _, _, w2⟩ := open_int Try.underlying50 (hval 2 50 v2 rfl rfl) h2
  have b2 := bounds_u32 w2
  subst e2
  refine (journalKeeps_walk W v0 l0 R0 a1 (by omega) (by omega) a2 (by omega) (by omega)).mono fun e W' ⟨he, bel⟩ => ?_
  subst he
  exact ⟨_, rfl, _, _, _, [], _, [], hW', trodAll_mk1 (shut_bool Try.underlying4 _), (trodAll_cons_mk (Below.trod laid_out (by kernel_rfl) (of_decide_eq_true (by kernel_rfl)) h0 bel lt0) (trodAll_cons_mk (Below.trod laid_out (by kernel_rfl) (of_decide_eq_true (by kernel_rfl)) h1 bel lt1) (trodAll_cons_mk (Below.trod laid_out (by kernel_rfl) (of_decide_eq_true (by kernel_rfl)) h2 bel lt2) trodAll_mk0))), rfl, bel.frame _, fun h => by cases h⟩

theorem journalKeeps_holds : Rows.JournalKeepsSaid :=
  OpenClaim.holds_of_wide 13 Try.f13 rfl rfl rfl rfl rfl rfl rfl ⟨rfl, rfl, rfl, rfl, rfl⟩ rfl rfl rfl rfl rfl (by kernel_rfl) Try.func13 (by kernel_rfl)
    (of_decide_eq_true (by kernel_rfl)) (by unfold Func.isWrapper; first | (rw [if_pos (by decide +kernel)]; kernel_rfl) | (rw [if_neg (by decide +kernel)]; exact ⟨rfl, rfl⟩))
    (fun os started H enc _ => journalKeeps_lifted os started H enc)
#print axioms journalKeeps_holds
end Go.Proofs.Ytnfmcmjfpbmloaa
