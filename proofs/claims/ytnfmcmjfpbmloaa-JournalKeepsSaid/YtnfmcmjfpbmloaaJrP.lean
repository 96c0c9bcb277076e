/-
  The reference journal: Opens, where the list has one record more (printed by mkmb.py).
-/
import Derived.Test.YtnfmcmjfpbmloaaJrI
import Derived.Deep.RegionHeld3
namespace Go.Proofs.Ytnfmcmjfpbmloaa
open Go.RowKit

theorem reads_blk {w : World} {B : Nat} {x : Value} (h : w.heap[B]? = some (.cells #[x] 9 (0, 0))) : Reads w 1 (.slice (some ⟨B, 0, none⟩) 1 1) 1 [x] := by
  refine ⟨_, _, rfl, rfl, fun _ => ⟨_, rfl, fun j u hu => ?_⟩⟩
  rw [Addr.add_lit, Nat.zero_add, cell_of_row w B j _ _ _ h]
  simpa using hu

section
variable {w0 w : World} {L : List HP} {gm : Nat}
set_option maxRecDepth 100000 in
set_option maxHeartbeats 4000000 in
theorem opens_maybe {l mb recs : List (List UInt8)} {by' : Int} {br : Bool} {v : Value} (h : RJ w0 w gm l mb br by' L) (i : Nat) (hi : L[i]? = some (sl v recs)) (hlr : recs.length ≤ 1000000) (hll : l.length ≤ 1000000) (hbr : bs recs ≤ 1000000000) {r0 : List UInt8} {mb0 : List (List UInt8)} (hmb : mb = mb0 ++ [r0]) (hrl : recs = l ++ [r0]) (hbt : br = true) (hml : mb.length ≤ 1000) :
    Calls Try.prog 47 #[.pointer (some ⟨gm, 0, none⟩), v] w fun r w' => r = .returned (.bool true) ∧ RJ w0 w' gm recs [] false (bs recs) L := by
  obtain ⟨i0, hi0, hz0, hz1, hz2⟩ := info_parts str_info
  obtain ⟨vL, vM, h⟩ := h
  obtain ⟨S9, hown9, _⟩ := h.get (i + 3) (at3 hi)
  obtain ⟨Av, cv, rfl, _⟩ := own_slice hown9
  clear hown9
  have HI := Lib.hid hi
  have H := Lib.hid h
  have c0 := h.cell 0 rfl 0 _ rfl
  have HRL := Lib.hid hrl
  have HMB := Lib.hid hmb
  clear hrl hmb
  subst hbt
  clear h hi
  go_enter Try.func47, Try.ntmps47
  go_wp2_with fail
  refine (at_same H.out (H.out.list (i + 3) (at3 HI.out)) (H.out.list 1 rfl) (by omega) (by omega)).mono ?_
  rintro r w1 ⟨rfl, h1⟩
  rw [decide_eq_false (by rw [HRL.out]; intro h0; have := congrArg List.length h0; simp at this)]
  clear H
  have H2 := Lib.hid h1
  clear h1 c0
  obtain ⟨SL, hoL, _⟩ := H2.out.get 1 rfl
  obtain ⟨AL, cL, rfl, _⟩ := own_slice hoL
  obtain ⟨SM, hoM, _⟩ := H2.out.get 2 rfl
  obtain ⟨AM, cM, rfl, hcM⟩ := own_slice hoM
  clear hoL hoM
  obtain ⟨nm, hnm⟩ : ∃ nm, mb.length = nm + 1 := ⟨mb.length - 1, by rw [HMB.out]; simp⟩
  obtain ⟨NM, hNM⟩ : ∃ NM, mb.length = NM := ⟨_, rfl⟩
  obtain ⟨bM, oM, hAM, cz⟩ := reads_at (H2.out.list 2 rfl) nm r0 (by rw [HMB.out] at hnm ⊢; simp at hnm; rw [List.getElem?_append_right (by omega)]; simp [hnm])
  subst hAM
  have hNM2 : NM = nm + 1 := by omega
  have HNM := Lib.hid hNM2
  rw [hNM] at H2 hcM hml hnm
  clear hNM
  have z0 := H2.out.cell 0 rfl 0 _ rfl
  have z1 := H2.out.cell 0 rfl 1 _ rfl
  have z2 := H2.out.cell 0 rfl 2 _ rfl
  have hnmI : (0 : Int) < (NM : Int) := by omega
  have hnmN : 0 < NM := by omega
  have q1 : IntKind.i64.wrap ((NM : Int) - 1) = (nm : Int) := by rw [IntWalk.i64_in _ (by omega)]; omega
  have p1 : (0 : Int) ≤ (nm : Int) := by omega
  have p2 : (nm : Int) < (NM : Int) := by omega
  have p3 : nm < NM := by omega
  clear hnm hNM2
  obtain ⟨rs, hrs⟩ : ∃ rs, str r0 = rs := ⟨_, rfl⟩
  have HRS := Lib.hid hrs
  rw [hrs] at cz
  clear hrs
  have hKS : ∀ w', Turns No w1 w' → w'.cell? ⟨gm, 0, none⟩ = some (.slice AL l.length cL) ∧ w'.cell? ⟨gm, 1, none⟩ = some (.slice (some ⟨bM, oM, none⟩) NM cM) ∧ w'.cell? ⟨bM, oM + nm, none⟩ = some (.string rs) := by
    intro w' hw
    have h3 := H2.out.keep hw
    exact ⟨h3.cell 0 rfl 0 _ rfl, h3.cell 0 rfl 1 _ rfl, (hw.cell (p := ⟨bM, oM + nm, none⟩) (block_lt_of_cell cz) id).trans cz⟩
  have HKS := Lib.hid hKS
  clear hKS
  have HT0 := Lib.hid (Turns.refl No w1).drew
  have RDL := Lib.hid (fun (w' : World) (hw : Turns No w1 w') => (H2.out.keep hw).list 1 rfl)
  have mk35 : ∀ (Wc : World) (B : Nat), Turns No w1 Wc → w1.heap.size ≤ B → ∀ v1 w3, w3.ownsRow 0 9 1 v1 (0 + l.length) ([] ++ strs l) → Wc.grownBy w3 (Value.slice (some ⟨B, 0, none⟩) 0 0).ownBlock → (v1.ownBlock = (Value.slice (some ⟨B, 0, none⟩) 0 0).ownBlock ∨ v1.ownBlock = some Wc.heap.size) →
    ∃ A1 c1, v1 = .slice A1 l.length c1 ∧ Hid (Turns No w1 w3) ∧ Hid (w3.ownsRow 0 9 1 (.slice A1 l.length c1) l.length (strs l)) ∧ Hid (∀ k, (Value.slice A1 l.length c1).ownBlock = some k → w1.heap.size ≤ k) ∧ Hid (∀ k o, k < Wc.heap.size → k ≠ B → Wc.heap[k]? = some o → w3.heap[k]? = some o) := by
    intro Wc B hW hB v1 w3 k1 k2 k3
    rw [Nat.zero_add, List.nil_append] at k1
    obtain ⟨A1, c1, rfl, _⟩ := own_slice k1
    refine ⟨A1, c1, rfl, hW.grown k2 fun k hk => .inr (by simp [Value.ownBlock] at hk; omega), k1, ?_, ?_⟩
    · intro k hk
      rcases k3 with h | h
      · rw [hk] at h; simp [Value.ownBlock] at h; omega
      · rw [hk] at h; injection h with h; have := hW.size; omega
    · intro k o hk hne ho
      exact (k2.block k hk (by simp [Value.ownBlock]; exact hne)).trans ho
  have MK35 := Lib.hid mk35
  clear mk35
  have mk49 : ∀ (A1 : Option Addr) (c1 : Nat) (Wc : World), Turns No w1 Wc → (∀ k, (Value.slice A1 l.length c1).ownBlock = some k → w1.heap.size ≤ k) → ∀ v2 w4, w4.ownsRow 0 9 1 v2 (l.length + 1) (strs l ++ [.string rs]) → Wc.grownBy w4 (Value.slice A1 l.length c1).ownBlock →
    ∃ A2 c2, v2 = .slice A2 (l.length + 1) c2 ∧ Hid (Turns No w1 w4) ∧ Hid (Reads w4 1 (.slice A2 (l.length + 1) c2) (l ++ [r0]).length (strs (l ++ [r0]))) := by
    intro A1 c1 Wc hW hB v2 w4 k1 k2
    obtain ⟨A2, c2, rfl, _⟩ := own_slice k1
    refine ⟨A2, c2, rfl, hW.grown k2 fun k hk => .inr (hB k hk), ?_⟩
    have h5 := Reads.of_own k1
    rw [← HRS.out] at h5
    have e : strs l ++ [.string (str r0)] = strs (l ++ [r0]) := by simp [strs]
    rw [e] at h5
    rw [List.length_append]
    exact h5
  have MK49 := Lib.hid mk49
  clear mk49
  have hll2 : l.length ≤ 1000000 := hll
  go_wp2_with fail
  go_region_held3 (fun w' => w'.cell? ⟨gm, 0, none⟩ = some (.slice AL l.length cL) ∧ w'.cell? ⟨gm, 1, none⟩ = some (.slice (some ⟨bM, oM, none⟩) NM cM) ∧ w'.cell? ⟨bM, oM + nm, none⟩ = some (.string rs))
    (first
      | exact HKS.out _ HT5.out
      | exact HKS.out _ HT4.out
      | exact HKS.out _ HT3.out
      | exact HKS.out _ (HT3.out.alloc _)
      | exact HKS.out _ HT0.out
      | exact HKS.out _ (HT0.out.alloc _)
      | exact HKS.out _ ((HT0.out.alloc _).alloc _))
    (first
      | (refine step_append_onto' _ (by rfl) (.tmp 30) (.tmp 34) 64 (by rfl) 9 i0 _ 1 16 Try.underlying64 hi0 hz0 hz1 hz2 rfl (by decide) (.slice (some ⟨w1.heap.size, 0, none⟩) 0 0) 0 [] (by rfl) (own_empty w1.drew) (.slice AL l.length cL) l.length (strs l) (by rfl) (RDL.out _ (HT0.out.alloc _)) (by unfold strs; simp [Value.oneCell']) (by simp only [maxLen]; omega) (by omega) ?_; intro v1 w3 hown1 hg1 hat1; obtain ⟨A1, c1, hv1, HT3, HO3, HB3, HP3⟩ := MK35.out _ _ (HT0.out.alloc _) (Nat.le_refl _) v1 w3 hown1 hg1 hat1; subst hv1; clear hown1 hg1 hat1)
      | (refine step_append_onto' _ (by rfl) (.tmp 30) (.tmp 34) 64 (by rfl) 9 i0 _ 1 16 Try.underlying64 hi0 hz0 hz1 hz2 rfl (by decide) (.slice (some ⟨w1.heap.size, 0, none⟩) 0 0) 0 [] (by rfl) ((own_empty w1.drew).alloc (.cells #[.string rs] 9)) (.slice AL l.length cL) l.length (strs l) (by rfl) (RDL.out _ ((HT0.out.alloc _).alloc _)) (by unfold strs; simp [Value.oneCell']) (by simp only [maxLen]; omega) (by omega) ?_; intro v1 w3 hown1 hg1 hat1; obtain ⟨A1, c1, hv1, HT3, HO3, HB3, HP3⟩ := MK35.out _ _ ((HT0.out.alloc _).alloc _) (Nat.le_refl _) v1 w3 hown1 hg1 hat1; subst hv1; clear hown1 hg1 hat1)
      | (refine step_append_onto' _ (by rfl) (.tmp 30) (.tmp 34) 64 (by rfl) 9 i0 _ 1 16 Try.underlying64 hi0 hz0 hz1 hz2 rfl (by decide) (.slice (some ⟨w1.heap.size + 1, 0, none⟩) 0 0) 0 [] (by rfl) (show ((w1.drew.alloc (.cells #[.string rs] 9)).alloc (.cells #[] 9)).ownsRow 0 9 1 (.slice (some ⟨w1.heap.size + 1, 0, none⟩) 0 0) 0 [] by have := own_empty (w1.drew.alloc (.cells #[.string rs] 9)); rw [World.size_alloc] at this; exact this) (.slice AL l.length cL) l.length (strs l) (by rfl) (RDL.out _ ((HT0.out.alloc _).alloc _)) (by unfold strs; simp [Value.oneCell']) (by simp only [maxLen]; omega) (by omega) ?_; intro v1 w3 hown1 hg1 hat1; obtain ⟨A1, c1, hv1, HT3, HO3, HB3, HP3⟩ := MK35.out _ _ ((HT0.out.alloc _).alloc _) (by omega) v1 w3 hown1 hg1 hat1; subst hv1; clear hown1 hg1 hat1)
      | (refine step_append_onto' _ (by rfl) (.tmp 35) (.tmp 48) 64 (by rfl) 9 i0 _ 1 16 Try.underlying64 hi0 hz0 hz1 hz2 rfl (by decide) (.slice A1 l.length c1) l.length (strs l) (by rfl) (HO3.out.alloc _) (.slice (some ⟨w3.heap.size, 0, none⟩) 1 1) 1 [.string rs] (by rfl) (reads_new w3 9 [.string rs] 1 1 1 rfl) (by simp [Value.oneCell']) (by simp only [maxLen]; omega) (by omega) ?_; intro v2 w4 hown2 hg2 hat2; obtain ⟨A2, c2, hv2, HT4, HR4⟩ := MK49.out A1 c1 _ (HT3.out.alloc _) HB3.out v2 w4 hown2 hg2; subst hv2; clear hown2 hg2 hat2)
      | (refine step_append_onto' _ (by rfl) (.tmp 35) (.tmp 48) 64 (by rfl) 9 i0 _ 1 16 Try.underlying64 hi0 hz0 hz1 hz2 rfl (by decide) (.slice A1 l.length c1) l.length (strs l) (by rfl) HO3.out (.slice (some ⟨w1.heap.size + 1, 0, none⟩) 1 1) 1 [.string rs] (by rfl) (reads_blk (HP3.out (w1.heap.size + 1) _ (by simp) (by omega) (by have := heap_alloc_new (w1.drew.alloc (.cells #[] 9)) (.cells #[.string rs] 9); rw [World.size_alloc] at this; exact this))) (by simp [Value.oneCell']) (by simp only [maxLen]; omega) (by omega) ?_; intro v2 w4 hown2 hg2 hat2; obtain ⟨A2, c2, hv2, HT4, HR4⟩ := MK49.out A1 c1 _ HT3.out HB3.out v2 w4 hown2 hg2; subst hv2; clear hown2 hg2 hat2)
      | (refine step_append_onto' _ (by rfl) (.tmp 35) (.tmp 48) 64 (by rfl) 9 i0 _ 1 16 Try.underlying64 hi0 hz0 hz1 hz2 rfl (by decide) (.slice A1 l.length c1) l.length (strs l) (by rfl) HO3.out (.slice (some ⟨w1.heap.size, 0, none⟩) 1 1) 1 [.string rs] (by rfl) (reads_blk (HP3.out w1.heap.size _ (by simp; omega) (by omega) ((Below.heap_alloc (w1.drew.alloc (.cells #[.string rs] 9)) (.cells #[] 9) w1.heap.size (by simp)).trans (heap_alloc_new w1.drew (.cells #[.string rs] 9))))) (by simp [Value.oneCell']) (by simp only [maxLen]; omega) (by omega) ?_; intro v2 w4 hown2 hg2 hat2; obtain ⟨A2, c2, hv2, HT4, HR4⟩ := MK49.out A1 c1 _ HT3.out HB3.out v2 w4 hown2 hg2; subst hv2; clear hown2 hg2 hat2)
      | (go_at_call 48; refine (same34_any _ (.slice Av recs.length cv) (.slice A2 (l.length + 1) c2) recs (l ++ [r0]) ((H2.out.keep HT4.out).list (i + 3) (at3 HI.out)) HR4.out (by omega) (by simp; omega)).mono ?_; rintro r w5 ⟨rfl, n5, rfl⟩; rw [decide_eq_true HRL.out]; have HT5 := Lib.hid (HT4.out.drewN n5)))
  all_goals
    have H3 := Lib.hid (H2.out.keep HT5.out)
    clear H2 HKS HT0 RDL MK35 MK49 HT3 HO3 HB3 HP3 HT4 HR4 HT5 z0 z1 z2 cz q1 p1 p2 p3 hnmI hnmN HNM HMB HRL HRS
    generalize w4.drewN n5 = w2 at *
    have H2 := H3
    clear H3
    have c4 := (H2.out.alloc (.cells #[] 9)).cell 0 rfl 0 _ rfl
    have HRD := Lib.hid ((H2.out.alloc (.cells #[] 9)).list (i + 3) (at3 HI.out))
    have mk : ∀ v' w3, w3.ownsRow 0 9 1 v' (0 + recs.length) ([] ++ strs recs) → (w2.alloc (.cells #[] 9)).grownBy w3 (Value.slice (some ⟨w2.heap.size, 0, none⟩) 0 0).ownBlock → (v'.ownBlock = (Value.slice (some ⟨w2.heap.size, 0, none⟩) 0 0).ownBlock ∨ v'.ownBlock = some (w2.alloc (.cells #[] 9)).heap.size) →
      ∃ A1 c1, v' = .slice A1 recs.length c1 ∧ w3.cell? ⟨gm, 0, none⟩ = some (.slice AL l.length cL) ∧ w3.frozen? ⟨gm, 0, none⟩ = false ∧ w3.cell? ⟨gm, 1, none⟩ = some (.slice (some ⟨bM, oM, none⟩) NM cM) ∧ w3.frozen? ⟨gm, 1, none⟩ = false ∧ w3.cell? ⟨gm, 2, none⟩ = some (.bool true) ∧ w3.frozen? ⟨gm, 2, none⟩ = false ∧ w3.cell? ⟨gm, 3, none⟩ = some (.int .i64 by') ∧ w3.frozen? ⟨gm, 3, none⟩ = false ∧
        Hid (At w0 ((((w3.setCell ⟨gm, 0, none⟩ v').setCell ⟨gm, 2, none⟩ (.bool false)).setCell ⟨gm, 1, none⟩ (.slice none 0 0)).setCell ⟨gm, 3, none⟩ (.int .i64 0)) (rjL gm v' (.slice none 0 0) recs [] false 0 L)) := by
      intro v' w3 k1 k2 k3
      rw [Nat.zero_add, List.nil_append] at k1
      obtain ⟨A1, c1, rfl, _⟩ := own_slice k1
      have hA := at_list_new H2.out k2 k1 k3
      have hfz := hA.block 1 rfl
      have hB := at_set (at_set (at_set (at_set hA 1 rfl 0 (.slice A1 recs.length c1) _ rfl) 1 rfl 2 (.bool false) _ rfl) 1 rfl 1 (.slice none 0 0) _ rfl) 1 rfl 3 (.int .i64 0) _ rfl
      have hC := (hB.perm ((List.perm_append_comm (l₁ := [sl (.slice A1 recs.length c1) recs, bl gm 74 #[.slice A1 recs.length c1, .slice none 0 0, .bool false, .int .i64 0]]) (l₂ := [sl (.slice AL l.length cL) l, sl (.slice (some ⟨bM, oM, none⟩) NM cM) mb])).append_right L)).tail.tail
      have hD := at_nil_list (hC.perm (.swap _ _ _))
      refine ⟨A1, c1, rfl, hA.cell 1 rfl 0 _ rfl, frozen_of_row w3 _ _ _ _ hfz, hA.cell 1 rfl 1 _ rfl, frozen_of_row w3 _ _ _ _ hfz, hA.cell 1 rfl 2 _ rfl, frozen_of_row w3 _ _ _ _ hfz, hA.cell 1 rfl 3 _ rfl, frozen_of_row w3 _ _ _ _ hfz, ?_⟩
      exact hD.perm ((List.perm_append_comm (l₁ := [sl (.slice none 0 0) []]) (l₂ := [bl gm 74 #[.slice A1 recs.length c1, .slice none 0 0, .bool false, .int .i64 0], sl (.slice A1 recs.length c1) recs])).append_right L)
    have Hmk := Lib.hid mk
    clear mk
    go_wp2_with (at_builtin; refine wpList_append_onto' _ rfl (.tmp 52) (.tmp 53) 64 rfl 9 i0 _ 1 16 Try.underlying64 hi0 hz0 hz1 hz2 rfl (by decide) (.slice (some ⟨w2.heap.size, 0, none⟩) 0 0) 0 [] rfl (own_empty w2) (.slice Av recs.length cv) recs.length (strs recs) rfl HRD.out (by unfold strs; simp [Value.oneCell']) (by simp only [maxLen]; omega) (by omega) ?_; intro v1 w3 hown1 hg1 hat1; obtain ⟨A1, c1, hv1, k0, k1, k2, k3, k4, k5, k6, k7, HP⟩ := Hmk.out v1 w3 hown1 hg1 hat1; subst hv1; clear hown1 hg1 hat1)
    clear Hmk HRD
    generalize ((((w3.setCell ⟨gm, 0, none⟩ (.slice A1 recs.length c1)).setCell ⟨gm, 2, none⟩ (.bool false)).setCell ⟨gm, 1, none⟩ (.slice none 0 0)).setCell ⟨gm, 3, none⟩ (.int .i64 0)) = w4 at *
    go_loopw [6] (fun i wr => ∃ k : Nat, k ≤ recs.length ∧ i = .int .i64 (k : Int) ∧ Hid (At w0 wr (rjL gm (.slice A1 recs.length c1) (.slice none 0 0) recs [] false (bs (recs.take k)) L))) (fun i _ => recs.length - (intOf i).toNat)
    case atStart => exact ⟨0, by omega, rfl, HP⟩
    case round =>
      obtain ⟨k, hk, rfl, HK⟩ := hrel
      by_cases hlt : k < recs.length
      · have hltI : (k : Int) < (recs.length : Int) := by omega
        obtain ⟨x, hx⟩ : ∃ x, recs[k]? = some x := ⟨_, List.getElem?_eq_getElem hlt⟩
        obtain ⟨b1, o1, hA, cx⟩ := reads_at (HK.out.list (i + 3) (at3 HI.out)) k x hx
        subst hA
        have hbt := bs_take_le recs (k + 1)
        have HBT := Lib.hid (bs_take recs k x hx)
        have hsum : (bs (recs.take k) : Int) + (x.length : Int) + 16 ≤ 1000000000 := by have := HBT.out; omega
        have hxs : ((str x).size : Int) = (x.length : Int) := by rw [str_size]
        obtain ⟨q, hq⟩ : ∃ q : Int, (bs (recs.take k) : Int) = q := ⟨_, rfl⟩
        have hq0 : 0 ≤ q := by omega
        rw [hq] at HK hsum HBT
        obtain ⟨y, hy⟩ : ∃ y : Int, (x.length : Int) = y := ⟨_, rfl⟩
        have hy0 : 0 ≤ y := by omega
        rw [hy] at hxs hsum HBT
        have HXS := Lib.hid hxs
        have c3 := HK.out.cell 0 rfl 3 _ rfl
        have f3 : wr.frozen? ⟨gm, 3, none⟩ = false := frozen_of_row wr _ _ _ _ (HK.out.block 0 rfl)
        have q1 : IntKind.i64.wrap (q + y) = q + y := IntWalk.i64_in _ (by omega)
        have q2 : IntKind.i64.wrap (q + y + 16) = q + y + 16 := IntWalk.i64_in _ (by omega)
        have HN : Hid (At w0 (wr.setCell ⟨gm, 3, none⟩ (.int .i64 (q + y + 16))).drew (rjL gm (.slice A1 recs.length c1) (.slice none 0 0) recs [] false (bs (recs.take (k + 1))) L)) := by
          rw [HBT.out]
          exact (at_set HK.out 0 rfl 3 (.int .i64 (q + y + 16)) _ rfl).drew
        clear hx hbt hq hy
        go_wp2_with fail
        go_region
        all_goals
          go_wp2_with fail
          exact ⟨⟨k + 1, by omega, by go_num, HN⟩, by simp [intOf]; omega⟩
      · have hltI : ¬ (k : Int) < (recs.length : Int) := by omega
        go_wp2_with fail
        go_ret
        have h9 := HK.out
        rw [List.take_of_length_le (by omega)] at h9
        exact ⟨rfl, _, _, h9⟩
end
end Go.Proofs.Ytnfmcmjfpbmloaa
