/-
  The contracts of the reference's Read and Write.
-/
import Derived.Test.YtnfmcmjfpbmloaaDkM
namespace Go.Proofs.Ytnfmcmjfpbmloaa
open Go.RowKit
section
variable {w : World} {g : Nat} {σ : DS} {S : Nat → Prop} {vp : Value} {l : Int}

set_option maxRecDepth 100000 in
set_option maxHeartbeats 400000 in
theorem rread_yes (d : RefAt w g σ S vp l) (off : Nat) (n : Int) (h1 : 1 ≤ n) (hlt : off < σ.now.length) :
    Calls Try.prog 38 #[.pointer (some ⟨g, 0, none⟩), .int .i64 off, .int .i64 n] w fun e w' => e = .returned (.string (str ((σ.now.drop off).take n.toNat))) ∧ ∃ m, w' = w.drewN m := by
  have c0 := d.cell 0
  simp at c0
  have hnow := d.ok.now
  obtain ⟨s, hs⟩ : ∃ s, str σ.now = s := ⟨_, rfl⟩
  rw [hs] at c0
  have hss : s.size = σ.now.length := by rw [← hs, str_size]
  have hlt' : off < s.size := by omega
  have hns : s.size ≤ 16777216 := by omega
  have l0 : ¬ ((s.size : Int) ≤ off) := by omega
  obtain ⟨N, hN⟩ : ∃ N : Nat, min n ((s.size : Int) - off) = N := ⟨(min n ((s.size : Int) - off)).toNat, by omega⟩
  have hN1 : off + N ≤ s.size := by omega
  have q3 : IntKind.i64.wrap ((s.size : Int) - off) = (s.size : Int) - off := IntWalk.i64_in _ (by omega)
  have q4 : IntKind.i64.wrap ((off : Int) + N) = (off : Int) + N := IntWalk.i64_in _ (by omega)
  have q5 : ((off : Int) + (N : Int)).toNat = off + N := by omega
  have q6 : (off : Int) + (N : Int) ≤ (s.size : Int) := by omega
  have HF := Lib.hid (show s.extract off (off + N) = str ((σ.now.drop off).take n.toNat) by
    apply str_ext
    rw [Lib.extract_data, str_data, ← hs, str_data, show off + N - off = N by omega]
    by_cases hn : n.toNat ≤ σ.now.length - off
    · rw [show N = n.toNat by omega]
    · rw [List.take_of_length_le (by rw [List.length_drop]; omega), List.take_of_length_le (by rw [List.length_drop]; omega)])
  clear d hs hss
  go_enter Try.func38, Try.ntmps38
  go_wp2
  go_quiet (fail)
  go_wp2
  go_ret
  exact ⟨congrArg (fun x => Ending.returned (Value.string x)) HF.out, _, rfl⟩

/-- Between two rounds of Write: k bytes are done. -/
def VRel (w : World) (g : Nat) (σ : DS) (S : Nat → Prop) (off : Nat) (s : List UInt8) (l : Int) (k : Nat) (wr : World) : Prop :=
  ∃ done vp S', Hid (done ++ pieces (off + k) (s.drop k) = pieces off s) ∧ Hid (RefAt wr g { σ with pcs := σ.pcs ++ done } S' vp l) ∧ Hid (Turns S w wr) ∧ Hid (∀ k, S' k → S k ∨ w.heap.size ≤ k)

theorem VRel.done {off k : Nat} {s : List UInt8} {wr : World} (h : VRel w g σ S off s l k wr) (hk : s.length ≤ k) : ThenR w g S { σ with pcs := σ.pcs ++ pieces off s } wr := by
  obtain ⟨done, vp, S', Hd, HD, HT, HS⟩ := h
  have hd := Hd.out
  rw [List.drop_of_length_le hk, pieces_nil, List.append_nil] at hd
  subst hd
  exact ⟨S', HD.out.is, HT.out, HS.out⟩

/-- One part more. -/
theorem part_close (d : RefAt w g σ S vp l) {v' : Value} {w1 w2 : World} {off : Nat} {t : List UInt8} (ht : Turns No w w1) (h1 : w2.ownsRow 0 94 2 v' (σ.pcs.length + 1) (σ.pcs.flatMap refCells ++ [.int .i64 (off : Int), .string (str t)])) (h2 : w1.grownBy w2 vp.ownBlock) (h3 : v'.ownBlock = vp.ownBlock ∨ v'.ownBlock = some w1.heap.size)
    (hok : ({ σ with pcs := σ.pcs ++ [(off, t)] } : DS).ok) :
    w2.heap[g]? = some (.cells #[.string (str σ.now), .string (str σ.syn), vp, .int .i64 (σ.n : Int), .int .i64 l, .bool σ.lim] 87 (0, 0)) ∧
    ∃ S', RefAt (w2.setCell ⟨g, 2, none⟩ v') g { σ with pcs := σ.pcs ++ [(off, t)] } S' v' l ∧ Turns S w (w2.setCell ⟨g, 2, none⟩ v') ∧ (∀ k, S' k → S k ∨ w.heap.size ≤ k) := by
  have ht2 : Turns (fun k => vp.ownBlock = some k) w w2 := Turns.grown ⟨ht.os, ht.tape, ht.output, ht.size, fun k hk _ => ht.block k hk id⟩ h2 fun k hk => .inl hk
  have hb := ht2.is d.blk d.neP
  have ht3 := turns_one w2 g 2 v'
  have hsz : w.heap.size ≤ w2.heap.size := ht2.size
  have hgl := lt_of_block d.blk
  have hp' : ∀ k, v'.ownBlock = some k → (vp.ownBlock = some k ∨ w.heap.size ≤ k) := by
    intro k hk
    rcases h3 with h3 | h3
    · exact .inl (h3.symm.trans hk)
    · rw [hk] at h3
      injection h3 with h3
      have := ht.size
      exact .inr (by omega)
  refine ⟨hb, fun k => S k ∨ v'.ownBlock = some k, ⟨?_, d.left, ?_, .inl d.inG, fun k hk => .inr hk, ?_, hok⟩, ?_, ?_⟩
  · rw [heap_setCell_same w2 g 2 _ _ v' hb]; simp
  · refine ht3.own ?_ ?_
    · simpa [refCells] using h1
    · rintro k hk rfl
      rcases hp' k hk with h | h
      · exact d.neP h
      · omega
  · rintro k (hk | hk)
    · exact Nat.lt_of_lt_of_le (d.lt k hk) (Nat.le_trans hsz ht3.size)
    · exact Nat.lt_of_lt_of_le (own_lt h1 k hk) ht3.size
  · exact (ht2.mono fun i _ h => d.inP i h).trans ht3 fun i hi => .inl (by rw [hi]; exact d.inG)
  · rintro k (hk | hk)
    · exact .inl hk
    · exact (hp' k hk).imp (d.inP k) id

theorem rround {w wr : World} {off k N : Nat} {s : ByteArray} {done : List (Nat × List UInt8)} {vp : Value} {S' : Nat → Prop} (Hd : done ++ pieces (off + k) (s.data.toList.drop k) = pieces off s.data.toList) (d : RefAt wr g { σ with pcs := σ.pcs ++ done } S' vp l) (HT : Turns S w wr) (HS : ∀ k, S' k → S k ∨ w.heap.size ≤ k)
    (hN : N = min (64 - (off + k) % 64) (s.size - k)) (hk : k < s.size) (hb : off + s.size ≤ 16777216) (hm : σ.pcs.length + 16777216 ≤ σ.n * 16777216) {v' : Value} {w1 w2 : World} (ht : Turns No wr w1)
    (h1 : w2.ownsRow 0 94 2 v' ((σ.pcs ++ done).length + 1) ((σ.pcs ++ done).flatMap refCells ++ [.int .i64 ((off : Int) + (k : Int)), .string (s.extract k (k + N))])) (h2 : w1.grownBy w2 vp.ownBlock) (h3 : v'.ownBlock = vp.ownBlock ∨ v'.ownBlock = some w1.heap.size) :
    w2.heap[g]? = some (.cells #[.string (str σ.now), .string (str σ.syn), vp, .int .i64 (σ.n : Int), .int .i64 l, .bool σ.lim] 87 (0, 0)) ∧ VRel w g σ S off s.data.toList l (k + N) (w2.setCell ⟨g, 2, none⟩ v') := by
  have hl : s.data.toList.length = s.size := by simp
  have htl : s.extract k (k + N) = str ((s.data.toList.drop k).take (64 - (off + k) % 64)) := by
    apply str_ext
    rw [Lib.extract_data, str_data, show k + N - k = N by omega]
    by_cases hle : 64 - (off + k) % 64 ≤ s.size - k
    · rw [show N = 64 - (off + k) % 64 by omega]
    · rw [List.take_of_length_le (by rw [List.length_drop]; omega), List.take_of_length_le (by rw [List.length_drop]; omega)]
  have hne : s.data.toList.drop k ≠ [] := by
    intro e
    have := congrArg List.length e
    rw [List.length_drop] at this
    simp at this
    omega
  have hp := pieces_cons (off + k) (s.data.toList.drop k) hne
  rw [show min (64 - (off + k) % 64) (s.data.toList.drop k).length = N by rw [List.length_drop]; omega] at hp
  have hN' : (s.data.toList.drop k).drop (64 - (off + k) % 64) = s.data.toList.drop (k + N) := by
    by_cases hle : 64 - (off + k) % 64 ≤ s.size - k
    · rw [List.drop_drop, show N = 64 - (off + k) % 64 by omega]
    · rw [List.drop_of_length_le (by rw [List.length_drop]; omega), List.drop_of_length_le (by omega)]
  rw [hN', Nat.add_assoc] at hp
  obtain ⟨T, hT⟩ : ∃ T, (s.data.toList.drop k).take (64 - (off + k) % 64) = T := ⟨_, rfl⟩
  rw [hT] at htl hp
  have hd2 : (done ++ [(off + k, T)]) ++ pieces (off + (k + N)) (s.data.toList.drop (k + N)) = pieces off s.data.toList := by
    rw [← Hd, hp]; simp
  have hlen : (done ++ [(off + k, T)]).length ≤ 16777216 := by
    have h1 := congrArg List.length hd2
    rw [List.length_append] at h1
    have h2 := pieces_len _ off s.data.toList (Nat.le_refl _)
    omega
  have hok : ({ σ with pcs := σ.pcs ++ done ++ [(off + k, T)] } : DS).ok := by
    refine ⟨d.ok.now, d.ok.syn, ?_, ?_, d.ok.left⟩
    · intro p hp'
      rw [List.append_assoc, List.mem_append] at hp'
      rcases hp' with h | h
      · exact d.ok.pcs p (List.mem_append_left _ h)
      · refine pieces_in 16777216 _ off s.data.toList (Nat.le_refl _) (by omega) p ?_
        rw [← hd2]
        exact List.mem_append_left _ h
    · rw [List.append_assoc, List.length_append]
      show σ.pcs.length + _ ≤ σ.n * 16777216
      omega
  rw [htl, show (off : Int) + (k : Int) = ((off + k : Nat) : Int) by omega] at h1
  obtain ⟨k0, S2, k1, k2, k3⟩ := part_close d ht h1 h2 h3 hok
  refine ⟨k0, done ++ [(off + k, T)], v', S2, hd2, ?_, HT.trans k2 HS, ?_⟩
  · show RefAt _ _ _ _ _ _
    simpa using k1
  · intro i hi
    rcases k3 i hi with h | h
    · exact HS i h
    · exact .inr (Nat.le_trans HT.size h)

set_option maxRecDepth 100000 in
set_option maxHeartbeats 400000 in
theorem rwrite_yes (d : RefAt w g σ S vp l) (ho : σ.off = false) (hn : σ.n < 100000) (off : Nat) (s : ByteArray) (hb : off + s.size ≤ 16777216) :
    Calls Try.prog 39 #[.pointer (some ⟨g, 0, none⟩), .int .i64 off, .string s] w fun e w' => e = .returned (.int .i64 0) ∧ ThenR w g S { σ.tick with now := lay σ.now off s.data.toList, pcs := σ.pcs ++ pieces off s.data.toList } w' := by
  obtain ⟨i0, hi, hz0, hz1, hz2⟩ := info_parts pt_info
  have hnow := d.ok.now
  have hmany := d.ok.many
  have HG := Lib.hid d.inG
  have HC := Lib.hid (roff_yes d ho (by omega))
  clear d
  have b1 : (off : Int) ≤ 16777216 := by omega
  have b2 : (off : Int) + s.size ≤ 16777216 := by omega
  go_enter Try.func39, Try.ntmps39
  go_wp2_with (first
   | (go_at_call 58; refine HC.out.mono ?_; rintro e w1 ⟨rfl, l1, HD1, HT1⟩; have c0 := HD1.out.cell 0; simp at c0)
   | (go_at_call 54; refine (rput_any _ (str σ.now) s off (by omega) (by omega) (by rw [str_size]; omega)).mono ?_; rintro e w2 ⟨rfl, hb2⟩; have Hb2 := Lib.hid hb2; have c2 : w2.cell? ⟨g, 0, none⟩ = some (.string (str σ.now)) := (Hb2.out.cell (p := ⟨g, 0, none⟩) (lt_of_block HD1.out.blk)).trans c0; have f2 : w2.frozen? ⟨g, 0, none⟩ = false := (Hb2.out.frozen (p := ⟨g, 0, none⟩) (lt_of_block HD1.out.blk)).trans (HD1.out.frozen 0); clear hb2 c0))
  have HT3 : Hid (Turns S w (w2.setCell ⟨g, 0, none⟩ (.string (str (lay (str σ.now).data.toList off s.data.toList))))) :=
    ((HT1.out.mono (T := S) fun i _ h => by rw [h]; exact HG.out).trans (Turns.below (S := No) Hb2.out) fun _ h => h.elim).setCell (.inl HG.out) _
  have HD3 : Hid (RefAt (w2.setCell ⟨g, 0, none⟩ (.string (str (lay (str σ.now).data.toList off s.data.toList)))) g { { σ.tick with now := lay σ.now off s.data.toList } with pcs := σ.pcs ++ [] } S vp l1) := by
    have hk := Turns.below (S := No) Hb2.out
    have hblk := hk.is HD1.out.blk id
    have ht3 := turns_one w2 g 0 (.string (str (lay (str σ.now).data.toList off s.data.toList)))
    rw [List.append_nil]
    refine ⟨?_, HD1.out.left, ht3.own (hk.own HD1.out.pcs fun _ _ => id) fun k hk e => HD1.out.neP (by rw [hk, e]), HD1.out.inG, HD1.out.inP, fun k hk' => Nat.lt_of_lt_of_le (HD1.out.lt k hk') (Nat.le_trans hk.size ht3.size), ⟨?_, HD1.out.ok.syn, HD1.out.ok.pcs, HD1.out.ok.many, HD1.out.ok.left⟩⟩
    · rw [heap_setCell_same w2 g 0 _ _ _ hblk]; simp [str_data]
    · rw [length_lay]; simp; omega
  have HS3 : Hid (∀ k, S k → S k ∨ w.heap.size ≤ k) := fun k hk => .inl hk
  clear HC HD1 HT1 Hb2
  generalize (w2.setCell ⟨g, 0, none⟩ (.string (str (lay (str σ.now).data.toList off s.data.toList)))) = w3 at *
  obtain ⟨τ, hτ⟩ : ∃ τ : DS, τ = { σ.tick with now := lay σ.now off s.data.toList } := ⟨_, rfl⟩
  have HD4 : Hid (RefAt w3 g { τ with pcs := τ.pcs ++ [] } S vp l1) := by rw [hτ]; exact HD3.out
  have HF : Hid (∀ wx, ThenR w g S { τ with pcs := τ.pcs ++ pieces off s.data.toList } wx → ThenR w g S { σ.tick with now := lay σ.now off s.data.toList, pcs := σ.pcs ++ pieces off s.data.toList } wx) := by
    rw [hτ]; exact fun _ h => h
  have hτn : τ.n ≤ 100000 := by rw [hτ]; show σ.n + 1 ≤ _; omega
  have hτm : τ.pcs.length + 16777216 ≤ τ.n * 16777216 := by rw [hτ]; show σ.pcs.length + _ ≤ (σ.n + 1) * _; omega
  clear HD3 hτ hmany
  go_loopw [8] (fun i wr => ∃ (k : Nat), k ≤ s.size ∧ i = .int .i64 (k : Int) ∧ VRel w g τ S off s.data.toList l1 k wr) (fun i _ => s.size - (intOf i).toNat)
  case atStart => exact ⟨0, Nat.zero_le _, rfl, [], vp, S, rfl, HD4, HT3, HS3⟩
  case round =>
    obtain ⟨k, hk, rfl, hrel⟩ := hrel
    by_cases hlt : k < s.size
    · obtain ⟨done, vp', S', Hd, HD, HT, HS⟩ := hrel
      obtain ⟨M, hM⟩ : ∃ M, (τ.pcs ++ done).length = M := ⟨_, rfl⟩
      have hown := HD.out.pcs
      rw [show ({ τ with pcs := τ.pcs ++ done } : DS).pcs = τ.pcs ++ done from rfl, hM] at hown
      obtain ⟨Ap, cp, rfl, hcp⟩ := own_slice hown
      have hnp : M < 4000000000000 := by
        have h1 : (τ.pcs ++ done).length ≤ τ.n * 16777216 := HD.out.ok.many
        omega
      have Hown := Lib.hid hown
      have c2 := HD.out.cell 2
      have f2 := HD.out.frozen 2
      simp at c2
      have hgr := lt_of_block HD.out.blk
      obtain ⟨N, hN⟩ : ∃ N : Nat, min (64 - ((off : Int) + k) % 64) ((s.size : Int) - k) = N := ⟨(min (64 - ((off : Int) + k) % 64) ((s.size : Int) - k)).toNat, by omega⟩
      have hN1 : k + N ≤ s.size := by omega
      have hN2 : 0 < N := by omega
      have q5 : ((k : Int) + (N : Int)).toNat = k + N := by omega
      have HR := Lib.hid (reads_new wr 94 [.int .i64 ((off : Int) + (k : Int)), .string (s.extract k (k + N))] 1 2 1 rfl)
      have hmk : ∀ v' w2, w2.ownsRow 0 94 2 v' (M + 1) ((τ.pcs ++ done).flatMap refCells ++ [.int .i64 ((off : Int) + (k : Int)), .string (s.extract k (k + N))]) → World.grownBy (wr.alloc (.cells #[.int .i64 ((off : Int) + (k : Int)), .string (s.extract k (k + N))] 94)).drew w2 (Value.slice Ap M cp).ownBlock → (v'.ownBlock = (Value.slice Ap M cp).ownBlock ∨ v'.ownBlock = some (wr.alloc (.cells #[.int .i64 ((off : Int) + (k : Int)), .string (s.extract k (k + N))] 94)).drew.heap.size) →
          ∃ g1 c1, v' = .slice (some ⟨g1, 0, none⟩) (M + 1) c1 ∧ (∃ u, w2.cell? ⟨g, 2, none⟩ = some u) ∧ w2.frozen? ⟨g, 2, none⟩ = false ∧ VRel w g τ S off s.data.toList l1 (k + N) (w2.setCell ⟨g, 2, none⟩ v') := by
        intro v' w2 h1 h2 h3
        obtain ⟨g1, c1, rfl, _⟩ := own_form h1 (by omega)
        rw [← hM] at h1
        obtain ⟨r1, r2⟩ := rround (w := w) Hd.out HD.out HT.out HS.out (N := N) (by omega) hlt hb hτm (((Turns.refl No wr).alloc _).drew) h1 h2 h3
        rw [hM] at r2
        exact ⟨g1, c1, rfl, ⟨_, cell_of_row w2 g 2 _ _ _ r1⟩, frozen_of_row w2 g 2 _ _ r1, r2⟩
      have Hmk := Lib.hid hmk
      clear hmk hM hown HD HT HS Hd
      have q1 : IntKind.i64.wrap ((k : Int) + (N : Int)) = (k : Int) + (N : Int) := IntWalk.i64_in _ (by omega)
      have q2 : IntKind.i64.wrap ((off : Int) + (k : Int)) = (off : Int) + (k : Int) := IntWalk.i64_in _ (by omega)
      have q3 : 0 ≤ (k : Int) + (N : Int) := by omega
      have q4 : (k : Int) + (N : Int) ≤ (s.size : Int) := by omega
      have q6 : (k : Int) ≤ (k : Int) + (N : Int) := by omega
      go_wp2_with fail
      go_region_law (refine step_append_onto' _ rfl (.tmp 54) (.tmp 65) 85 rfl 94 i0 _ 2 24 Try.underlying85 hi hz0 hz1 hz2 rfl (by decide) (.slice Ap M cp) M _ rfl (Hown.out.alloc _) (.slice (some ⟨wr.heap.size, 0, none⟩) 1 1) 1 [.int .i64 ((off : Int) + (k : Int)), .string (s.extract k (k + N))] rfl HR.out (by simp [Value.oneCell']) (by simp only [maxLen]; omega) (by omega) ?_; intro v1 w5 hown1 hg1 hat1; obtain ⟨g1, c1, hv1, ⟨u, hc1⟩, hf1, HP⟩ := Hmk.out v1 w5 hown1 hg1 hat1; subst hv1; clear hown1 hg1 hat1)
      all_goals
        clear q1 q2
        go_wp2
        exact ⟨⟨k + N, by omega, by go_num, HP⟩, by simp [intOf]; omega⟩
    · have hl1 : ¬ ((k : Int) < (s.size : Int)) := by omega
      go_wp2
      go_ret
      exact ⟨rfl, HF.out _ (hrel.done (by simp; omega))⟩

set_option maxHeartbeats 400000 in
theorem rwrite_no (d : RefAt w g σ S vp l) (ho : σ.off = true) (off : Nat) (s : ByteArray) (hb : off + s.size ≤ 16777216) :
    Calls Try.prog 39 #[.pointer (some ⟨g, 0, none⟩), .int .i64 off, .string s] w fun e w' => e = .returned (.int .i64 70) ∧ w = w' := by
  have HC := Lib.hid (roff_no d ho)
  clear d
  have b1 : (off : Int) ≤ 16777216 := by omega
  have b2 : (off : Int) + s.size ≤ 16777216 := by omega
  go_enter Try.func39, Try.ntmps39
  go_wp2_with (go_at_call 58; refine HC.out.mono ?_; rintro e w1 ⟨rfl, rfl⟩)
  go_ret
  exact ⟨rfl, rfl⟩
end

set_option maxHeartbeats 400000 in
theorem rwrite_neg (w : World) (a : Addr) (off : Int) (s : ByteArray) (hb : off < 0) :
    Calls Try.prog 39 #[.pointer (some a), .int .i64 off, .string s] w fun e w' => e = .returned (.int .i64 1) ∧ w = w' := by
  go_enter Try.func39, Try.ntmps39
  go_wp2
  go_ret
  exact ⟨rfl, rfl⟩
set_option maxHeartbeats 400000 in
theorem rwrite_far (w : World) (a : Addr) (off : Int) (s : ByteArray) (h0 : 0 ≤ off) (hb : 16777216 < off) :
    Calls Try.prog 39 #[.pointer (some a), .int .i64 off, .string s] w fun e w' => e = .returned (.int .i64 1) ∧ w = w' := by
  go_enter Try.func39, Try.ntmps39
  go_wp2
  go_ret
  exact ⟨rfl, rfl⟩
set_option maxHeartbeats 400000 in
theorem rwrite_long (w : World) (a : Addr) (off : Int) (s : ByteArray) (h0 : 0 ≤ off) (h1 : off ≤ 16777216) (hb : 16777216 < off + (s.size : Int)) (hm : off + (s.size : Int) ≤ 9223372036854775807) :
    Calls Try.prog 39 #[.pointer (some a), .int .i64 off, .string s] w fun e w' => e = .returned (.int .i64 1) ∧ w = w' := by
  go_enter Try.func39, Try.ntmps39
  go_wp2
  go_ret
  exact ⟨rfl, rfl⟩

theorem rwrite_any {w : World} {g : Nat} {S : Nat → Prop} {σ : DS} (h : IsRef w g σ S) (hn : σ.n < 100000) (off : Int) (s : ByteArray) (hs : s.size ≤ 1000000000) :
    Calls Try.prog 39 #[.pointer (some ⟨g, 0, none⟩), .int .i64 off, .string s] w fun e w' => e = .returned (.int .i64 (σ.writeE off s.data.toList)) ∧ ThenR w g S (σ.write off s.data.toList) w' := by
  have h0 := h
  obtain ⟨vp, l, d⟩ := h
  have hl : s.data.toList.length = s.size := by simp
  unfold DS.writeE DS.write
  rw [hl]
  by_cases hb : off < 0 ∨ 16777216 < off + (s.size : Int)
  · rw [if_pos hb, if_pos hb]
    have key : Calls Try.prog 39 #[.pointer (some ⟨g, 0, none⟩), .int .i64 off, .string s] w fun e w' => e = .returned (.int .i64 1) ∧ w = w' := by
      by_cases h1 : off < 0
      · exact rwrite_neg w _ off s h1
      · by_cases h2 : 16777216 < off
        · exact rwrite_far w _ off s (by omega) h2
        · exact rwrite_long w _ off s (by omega) (by omega) (by omega) (by omega)
    refine key.mono ?_
    rintro e w' ⟨rfl, rfl⟩
    exact ⟨rfl, ThenR.same h0⟩
  · rw [if_neg hb, if_neg hb]
    obtain ⟨k, rfl⟩ := Int.eq_ofNat_of_zero_le (show 0 ≤ off by omega)
    cases ho : σ.off with
    | false =>
      refine (rwrite_yes d ho hn k s (by omega)).mono ?_
      rintro e w' ⟨rfl, h⟩
      exact ⟨rfl, h⟩
    | true =>
      refine (rwrite_no d ho k s (by omega)).mono ?_
      rintro e w' ⟨rfl, rfl⟩
      exact ⟨rfl, ThenR.same h0⟩

set_option maxHeartbeats 400000 in
theorem rread_neg (w : World) (a : Addr) (off n : Int) (h : off < 0) :
    Calls Try.prog 38 #[.pointer (some a), .int .i64 off, .int .i64 n] w fun e w' => e = .returned (.string (str [])) ∧ w = w' := by
  go_enter Try.func38, Try.ntmps38
  go_wp2
  go_ret
  exact ⟨rfl, rfl⟩
set_option maxHeartbeats 400000 in
theorem rread_few (w : World) (a : Addr) (off n : Int) (h0 : 0 ≤ off) (h : n < 1) :
    Calls Try.prog 38 #[.pointer (some a), .int .i64 off, .int .i64 n] w fun e w' => e = .returned (.string (str [])) ∧ w = w' := by
  go_enter Try.func38, Try.ntmps38
  go_wp2
  go_ret
  exact ⟨rfl, rfl⟩
set_option maxHeartbeats 400000 in
theorem rread_far (w : World) (g : Nat) (s : ByteArray) (off n : Int) (h0 : 0 ≤ off) (h1 : 1 ≤ n) (hc : w.cell? ⟨g, 0, none⟩ = some (.string s)) (h : (s.size : Int) ≤ off) :
    Calls Try.prog 38 #[.pointer (some ⟨g, 0, none⟩), .int .i64 off, .int .i64 n] w fun e w' => e = .returned (.string (str [])) ∧ w = w' := by
  go_enter Try.func38, Try.ntmps38
  go_wp2
  go_ret
  exact ⟨rfl, rfl⟩

theorem rread_any {w : World} {g : Nat} {σ : DS} {S : Nat → Prop} (h : IsRef w g σ S) (off n : Int) :
    Calls Try.prog 38 #[.pointer (some ⟨g, 0, none⟩), .int .i64 off, .int .i64 n] w fun e w' => e = .returned (.string (str (σ.read off n))) ∧ ∃ m, w' = w.drewN m := by
  obtain ⟨vp, l, d⟩ := h
  have same : ∀ {e : Ending} {w' : World}, e = .returned (.string (str [])) ∧ w = w' → σ.read off n = [] → e = .returned (.string (str (σ.read off n))) ∧ ∃ m, w' = w.drewN m := by
    rintro e w' ⟨rfl, rfl⟩ h
    exact ⟨by rw [h], 0, rfl⟩
  unfold DS.read
  unfold DS.read at same
  by_cases h0 : off < 0
  · exact (rread_neg w _ off n h0).mono fun e w' h => same h (if_pos (.inl h0))
  by_cases h1 : n < 1
  · exact (rread_few w _ off n (by omega) h1).mono fun e w' h => same h (if_pos (.inr h1))
  obtain ⟨k, rfl⟩ := Int.eq_ofNat_of_zero_le (show 0 ≤ off by omega)
  rw [if_neg (by omega)] at same ⊢
  by_cases h2 : k < σ.now.length
  · exact rread_yes d k n (by omega) h2
  · have c0 := d.cell 0
    simp at c0
    refine (rread_far w g _ k n (by omega) (by omega) c0 (by rw [str_size]; omega)).mono fun e w' h => same h ?_
    rw [Int.toNat_natCast, List.drop_of_length_le (by omega)]
    simp
end Go.Proofs.Ytnfmcmjfpbmloaa
