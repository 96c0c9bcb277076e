/-
  The contracts of Crash and New, and those at the nil disk.
-/
import Derived.Test.YtnfmcmjfpbmloaaDkH
namespace Go.Proofs.Ytnfmcmjfpbmloaa
open Go.RowKit
section
variable {w : World} {g : Nat} {σ : DS} {S : Nat → Prop} {vn vs vp : Value} {l : Int} {xs : List Value}

/-- The block of a new disk. -/
def zeroDisk : Obj := .cells #[.slice none 0 0, .slice none 0 0, .slice none 0 0, .int .i64 0, .bool false, .int .i64 0] 62

/-- Between two rounds of Crash: k pieces are done. -/
def CRel (w : World) (q : List Int) (σ : DS) (k : Nat) (vc : Value) (wr : World) : Prop :=
  wr.ownsRow 0 5 1 vc (fall q 0 σ.syn (σ.pcs.take k)).length (bys (fall q 0 σ.syn (σ.pcs.take k))) ∧ (∀ b, vc.ownBlock = some b → w.heap.size < b) ∧ Below (w.heap.size + 1) (w.alloc zeroDisk) wr

theorem tmod2 (x : Int) : x.tmod 2 = 0 ↔ x % 2 = 0 :=
  ⟨fun h => Int.emod_eq_zero_of_dvd (Int.dvd_of_tmod_eq_zero h), fun h => Int.tmod_eq_zero_of_dvd (Int.dvd_of_emod_eq_zero h)⟩

theorem own_max {w : World} {e : TypeId} {size : Nat} {v : Value} {n : Nat} {xs : List Value} (h : w.ownsRow 0 e size v n xs) : n ≤ 9223372036854775807 := by
  rcases h.2 with ⟨rfl, rfl⟩ | ⟨g, cap, cur, rfl, hb, hg, hc, hm, _⟩
  · omega
  · simp only [maxLen] at hm
    omega

theorem below_old {w wr : World} {o : Obj} (h : Below (w.heap.size + 1) (w.alloc o) wr) : Below w.heap.size w wr := ((Below.refl _ w).alloc (Nat.le_refl _) o).trans (h.mono (by omega))

theorem fall_le' (d : DiskAt w g σ S vn vs vp l xs) (q : List Int) (k : Nat) : (fall q 0 σ.syn (σ.pcs.take k)).length ≤ 16777216 := fall_le q _ _ _ d.ok.syn fun p hp => d.ok.pcs p (List.mem_of_mem_take hp)

theorem fall_step (q : List Int) (c : List UInt8) (ps : List (Nat × List UInt8)) (k : Nat) (p : Nat × List UInt8) (hp : ps[k]? = some p) :
    fall q 0 c (ps.take (k + 1)) = if lives q k then lay (fall q 0 c (ps.take k)) p.1 p.2 else fall q 0 c (ps.take k) := by
  have hk : k < ps.length := (List.getElem?_eq_some_iff.1 hp).1
  rw [List.take_succ_eq_append_getElem hk, fall_snoc]
  have : ps[k] = p := by
    have := List.getElem?_eq_getElem hk
    rw [hp] at this
    injection this with this
    exact this.symm
  rw [this, List.length_take, Nat.zero_add, show min k ps.length = k by omega]

theorem crash_skip {q : List Int} {k : Nat} {p : Nat × List UInt8} {vc : Value} {wr : World} (h : CRel w q σ k vc wr) (hp : σ.pcs[k]? = some p) (hl : lives q k = false) (o : Obj) : CRel w q σ (k + 1) vc (wr.alloc o) := by
  obtain ⟨h1, h2, h3⟩ := h
  unfold CRel
  rw [fall_step q _ _ k p hp, hl]
  refine ⟨?_, h2, h3.alloc (by have := h3.size; simpa using this) o⟩
  exact h1.alloc o

theorem crash_put (d : DiskAt w g σ S vn vs vp l xs) {q : List Int} {k : Nat} {p : Nat × List UInt8} {vc vt : Value} {wr : World} {bk : Nat} (h : CRel w q σ k vc wr) (hp : σ.pcs[k]? = some p) (ht : TextIn w 5 vt bk p.2) (hl : lives q k = true) (o : Obj) :
    Calls Try.prog 53 #[vc, .int .i64 (p.1 : Int), vt] (wr.alloc o) fun e w3 => ∃ A n c, e = .returned (.slice A n c) ∧ Hid (CRel w q σ (k + 1) (.slice A n c) w3) := by
  obtain ⟨h1, h2, h3⟩ := h
  have hB := below_old h3
  have hpl := d.ok.pcs p (List.mem_of_getElem? hp)
  have hr : Reads (wr.alloc o) 1 vt p.2.length (bys p.2) := (ht.turns (Turns.below (S := No) hB) id |>.turns ((Turns.refl No wr).alloc o) id).reads
  have hsz := h3.size
  rw [World.size_alloc] at hsz
  refine (put_any (wr.alloc o) vc vt _ p.2 p.1 (h1.alloc o) hr (.inr ?_) hpl (fall_le' d q k)).mono ?_
  · intro e
    have hlt := ht.lt
    obtain ⟨_, _, _, rfl, _⟩ := ht
    have := h2 bk e.symm
    omega
  · rintro e w3 ⟨v', rfl, k1, k2, k3⟩
    obtain ⟨A, c, rfl, _⟩ := own_slice k1
    refine ⟨A, _, c, rfl, ?_⟩
    show CRel _ _ _ _ _ _
    unfold CRel
    rw [fall_step q _ _ k p hp, hl]
    refine ⟨k1, ?_, (h3.alloc hsz o).grown k2 (by simp; omega) fun b hb => by have := h2 b hb; omega⟩
    intro b hb
    rcases k3 with k3 | k3
    · exact h2 b (k3.symm.trans hb)
    · rw [hb] at k3
      injection k3 with k3
      rw [World.size_alloc] at k3
      omega

/-- What Crash leaves. -/
def CPost (w : World) (σ : DS) (q : List Int) (e : Ending) (w' : World) : Prop :=
  e = .returned (.pointer (some ⟨w.heap.size, 0, none⟩)) ∧ Below w.heap.size w w' ∧ ∃ S', IsDisk w' w.heap.size (σ.crash q) S' ∧ ∀ k, S' k → w.heap.size ≤ k

theorem crash_close (d : DiskAt w g σ S vn vs vp l xs) {q : List Int} {k : Nat} {vc : Value} {wr : World} (h : CRel w q σ k vc wr) (hk : σ.pcs.length ≤ k) {v5 : Value} {w5 : World}
    (h1 : w5.ownsRow 0 5 1 v5 (0 + (fall q 0 σ.syn (σ.pcs.take k)).length) ([] ++ bys (fall q 0 σ.syn (σ.pcs.take k)))) (h2 : ((wr.setCell ⟨w.heap.size, 0, none⟩ vc).alloc (.cells #[] 5)).grownBy w5 (Value.slice (some ⟨wr.heap.size, 0, none⟩) 0 0).ownBlock)
    (h3 : v5.ownBlock = (Value.slice (some ⟨wr.heap.size, 0, none⟩) 0 0).ownBlock ∨ v5.ownBlock = some ((wr.setCell ⟨w.heap.size, 0, none⟩ vc).alloc (.cells #[] 5)).heap.size) :
    w5.heap[w.heap.size]? = some (.cells #[vc, .slice none 0 0, .slice none 0 0, .int .i64 0, .bool false, .int .i64 0] 62 (0, 0)) ∧
    CPost w σ q (.returned (.pointer (some ⟨w.heap.size, 0, none⟩))) (w5.setCell ⟨w.heap.size, 1, none⟩ v5) := by
  obtain ⟨k1, k2, k3⟩ := h
  rw [List.take_of_length_le hk] at k1 h1
  rw [Nat.zero_add, List.nil_append] at h1
  have hsz := k3.size
  rw [World.size_alloc] at hsz
  have hz : wr.heap[w.heap.size]? = some zeroDisk := (k3.block _ (by omega)).trans (heap_alloc_new w _)
  have hs4 : (wr.setCell ⟨w.heap.size, 0, none⟩ vc).heap.size = wr.heap.size := by simp [World.setCell]
  have ht1 := turns_one wr w.heap.size 0 vc
  have ht2 : Turns (· = w.heap.size) wr w5 := (ht1.alloc _).grown h2 fun b hb => by
    simp [Value.ownBlock] at hb
    exact .inr (by omega)
  have hz4 := heap_setCell_same wr w.heap.size 0 _ _ vc hz
  have hz5 : w5.heap[w.heap.size]? = some (.cells #[vc, .slice none 0 0, .slice none 0 0, .int .i64 0, .bool false, .int .i64 0] 62 (0, 0)) := by
    rw [h2.block w.heap.size (by simp; omega) (by simp [Value.ownBlock]; omega), Below.heap_alloc _ _ _ (by omega), hz4]
    simp
  have ht3 := turns_one w5 w.heap.size 1 v5
  have ht6 : Turns (· = w.heap.size) wr (w5.setCell ⟨w.heap.size, 1, none⟩ v5) := ht2.trans ht3 fun i hi => .inl hi
  have hv5 : ∀ b, v5.ownBlock = some b → wr.heap.size ≤ b := by
    intro b hb
    rcases h3 with h3 | h3
    · rw [hb] at h3; simp [Value.ownBlock] at h3; omega
    · rw [hb] at h3; simp at h3; omega
  have hvc : ∀ b, vc.ownBlock = some b → b < wr.heap.size := own_lt k1
  refine ⟨hz5, rfl, ?_, fun b => b = w.heap.size ∨ vc.ownBlock = some b ∨ v5.ownBlock = some b, ⟨vc, v5, .slice none 0 0, 0, [], ⟨?_, ?_, ?_, ?_, ?_, rfl, ?_, .inl rfl, fun b hb => .inr (.inl hb), fun b hb => .inr (.inr hb), ?_, ?_, d.ok.crash q⟩⟩, ?_⟩
  · exact (below_old k3).trans (ht6.toBelow (fun i hi => by omega) (by omega))
  · rw [heap_setCell_same w5 w.heap.size 1 _ _ v5 hz5]; simp [DS.crash, DS.new]
  · simp [DS.crash, DS.new]
  · refine ht6.own k1 fun b hb e => ?_
    have := k2 b hb
    omega
  · refine ht3.own h1 fun b hb e => ?_
    have := hv5 b hb
    omega
  · exact World.ownsRow_nil _ _ _ _
  · by_cases hn : vc.ownBlock = none
    · exact .inl hn
    · refine .inr fun e => ?_
      obtain ⟨b, hb⟩ := Option.ne_none_iff_exists'.1 hn
      have h1 := hvc b hb
      have h2 := hv5 b (e.symm.trans hb)
      omega
  · intro b hb; simp [Value.ownBlock] at hb
  · rintro b (rfl | hb | hb)
    · exact Nat.lt_of_lt_of_le (lt_of_block hz5) ht3.size
    · exact Nat.lt_of_lt_of_le (hvc b hb) ht6.size
    · exact Nat.lt_of_lt_of_le (own_lt h1 b hb) ht3.size
  · rintro b (rfl | hb | hb)
    · exact Nat.le_refl _
    · have := k2 b hb; omega
    · have := hv5 b hb; omega

set_option maxRecDepth 100000 in
set_option maxHeartbeats 400000 in
theorem crash_yes (d : DiskAt w g σ S vn vs vp l xs) (B : Option Addr) (cq : Nat) (q : List Int) (hq : Reads w 1 (.slice B q.length cq) q.length (q.map (.int .i64))) :
    Calls Try.prog 30 #[.pointer (some ⟨g, 0, none⟩), .slice B q.length cq] w (CPost w σ q) := by
  obtain ⟨i0, hi, hz0, hz1, hz2⟩ := info_parts u8_info
  obtain ⟨As, cs, rfl, hcs⟩ := own_slice d.syn
  obtain ⟨Ap, cp, rfl, hcp⟩ := own_slice d.pcs
  have hg0 := lt_of_block d.blk
  have hmax := own_max d.pcs
  have hsyn := d.ok.syn
  have HD := Lib.hid d
  have c1 := d.cell 1
  have c2 := d.cell 2
  simp at c1 c2
  have Hq := Lib.hid hq
  have HR : Hid (Reads ((w.alloc zeroDisk).alloc (.cells #[] 5)) 1 (.slice As σ.syn.length cs) σ.syn.length (bys σ.syn)) := (Reads.of_own d.syn).turns (((Turns.refl No w).alloc _).alloc _) fun _ _ => id
  have HO : Hid (((w.alloc zeroDisk).alloc (.cells #[] 5)).ownsRow 0 5 1 (.slice (some ⟨w.heap.size + 1, 0, none⟩) 0 0) 0 []) := by
    have := World.ownsRow_made (base := 0) (e := 5) (size := 1) (w.alloc zeroDisk) #[] 0 (Nat.zero_le _) (by simp only [maxLen]; omega) rfl
    rw [World.size_alloc] at this
    exact this
  have mk : ∀ v1 w2, w2.ownsRow 0 5 1 v1 (0 + σ.syn.length) ([] ++ bys σ.syn) → World.grownBy ((w.alloc zeroDisk).alloc (.cells #[] 5)) w2 (Value.slice (some ⟨w.heap.size + 1, 0, none⟩) 0 0).ownBlock → (v1.ownBlock = (Value.slice (some ⟨w.heap.size + 1, 0, none⟩) 0 0).ownBlock ∨ v1.ownBlock = some ((w.alloc zeroDisk).alloc (.cells #[] 5)).heap.size) →
    w2.cell? ⟨g, 2, none⟩ = some (.slice Ap σ.pcs.length cp) ∧ Hid (CRel w q σ 0 v1 w2) := by
    intro v1 w2 h1 h2 h3
    have hb : Below (w.heap.size + 1) (w.alloc zeroDisk) w2 := ((Below.refl _ _).alloc (by simp) _).grown h2 (by simp) (by intro k hk; simp [Value.ownBlock] at hk; omega)
    refine ⟨?_, by simpa [fall] using h1, ?_, hb⟩
    · refine (hb.cell (p := ⟨g, 2, none⟩) (by show g < _; omega)).trans ?_
      rw [World.cell?_alloc_lt w _ _ (by show g < _; omega)]
      exact c2
    · intro b hb'
      rcases h3 with h3 | h3
      · rw [hb'] at h3; simp [Value.ownBlock] at h3; omega
      · rw [hb'] at h3; simp at h3; omega
  have Hmk := Lib.hid mk
  clear d hq mk
  go_enter Try.func30, Try.ntmps30
  go_wp2_with (first
    | (go_at_call 21; refine (new_any _).mono ?_; rintro e w1 ⟨rfl, rfl⟩)
    | (at_builtin; refine wpList_append_onto' _ rfl (.tmp 13) (.tmp 17) 56 rfl 5 i0 _ 1 1 Try.underlying56 hi hz0 hz1 hz2 rfl (by decide) (.slice (some ⟨w.heap.size + 1, 0, none⟩) 0 0) 0 [] rfl HO.out (.slice As σ.syn.length cs) σ.syn.length (bys σ.syn) rfl HR.out (bys_one _) (by simp only [maxLen]; omega) (by omega) ?_; intro v1 w2 hown1 hg1 hat1; obtain ⟨hc2, HR1⟩ := Hmk.out v1 w2 hown1 hg1 hat1; clear hown1 hg1 hat1 c1 c2 HO HR Hmk))
  go_loopw [6, 25] (fun vc i wr => ∃ (k : Nat), k ≤ σ.pcs.length ∧ i = .int .i64 (k : Int) ∧ Hid (CRel w q σ k vc wr)) (fun _ i _ => σ.pcs.length - (intOf i).toNat)
  case atStart => exact ⟨0, Nat.zero_le _, rfl, HR1⟩
  case round =>
    obtain ⟨k, hk, rfl, HC⟩ := hrel
    by_cases hlt : k < σ.pcs.length
    · obtain ⟨gp, cp', e1, _⟩ := own_form HD.out.pcs (by omega)
      injection e1 with e1 e2 e3
      subst e1 e3
      obtain ⟨Ac, cc, rfl, _⟩ := own_slice HC.out.1
      obtain ⟨vt, bk, x1, x2, ht, _, _, _⟩ := HD.out.txt.at_ k _ (List.getElem?_eq_getElem hlt)
      have hB := below_old HC.out.2.2
      have hgp : gp < w.heap.size := own_lt HD.out.pcs gp rfl
      have y1 : wr.cell? ⟨gp, k * 2, none⟩ = some (.int .i64 ((σ.pcs[k]).1 : Int)) := by
        rw [hB.cell (p := ⟨gp, k * 2, none⟩) hgp, HD.out.pcs.cellAt (k * 2) (by omega), Nat.mul_comm, x1]
      have y2 : wr.cell? ⟨gp, k * 2 + 1, none⟩ = some vt := by
        rw [hB.cell (p := ⟨gp, k * 2 + 1, none⟩) hgp, HD.out.pcs.cellAt (k * 2 + 1) (by omega), Nat.mul_comm, x2]
      have HT := Lib.hid ht
      obtain ⟨ct, _, _, rfl, _⟩ := ht
      clear x1 x2
      generalize hp : σ.pcs[k] = p at *
      have Hp := Lib.hid hp
      clear hp hB
      have HPt := Lib.hid (fun o (h : lives q k = true) => crash_put HD.out HC.out (by rw [List.getElem?_eq_getElem hlt, Hp.out]) HT.out h o)
      have hkb : (k : Int) + 1 ≤ 9223372036854775807 := by omega
      by_cases hq0 : q.length = 0
      · have hq1 : ¬ (0 < q.length) := by omega
        have HSk := Lib.hid (crash_skip HC.out (by rw [List.getElem?_eq_getElem hlt, Hp.out]) (by unfold lives; simp [hq0]) (.cells #[.int .i64 (p.1 : Int), .slice (some ⟨bk, 0, none⟩) p.2.length ct] 90))
        go_wp2_with fail
        exact ⟨⟨k + 1, by omega, by go_num, HSk⟩, by simp [intOf]; omega⟩
      · obtain ⟨B', cq', e1, _, hqf⟩ := Hq.out
        injection e1 with e1 e2 e3
        subst e1 e3
        obtain ⟨⟨bq, oq, sp⟩, e1, hqc⟩ := hqf (by omega : 0 < q.length)
        clear hqf
        subst e1
        have hqp : 0 < q.length := by omega
        have hz := hqc (0 : Nat) (.int .i64 (q.getD 0 0)) (by simp [List.getD, hqp])
        have hbq' : bq < w.heap.size := block_lt_of_cell (a := ⟨bq, oq, sp⟩) hz
        obtain rfl : sp = none := by
          cases sp with
          | none => rfl
          | some x =>
            have : w.cell? ⟨bq, oq, some x⟩ = none := by unfold World.cell?; split <;> simp
            rw [show (⟨bq, oq, some x⟩ : Addr).add 0 = ⟨bq, oq, some x⟩ from rfl, this] at hz
            cases hz
        have hjl := Nat.mod_lt k hqp
        obtain ⟨x, hx⟩ : ∃ x, q.getD (k % q.length) 0 = x := ⟨_, rfl⟩
        have z1 : wr.cell? ⟨bq, oq + k % q.length, none⟩ = some (.int .i64 x) := by
          have := hqc (k % q.length) (.int .i64 x) (by simp [← hx, hjl])
          rw [Addr.add_lit] at this
          exact ((below_old HC.out.2.2).cell (p := ⟨bq, oq + k % q.length, none⟩) hbq').trans this
        have hbq : bq < wr.heap.size := Nat.lt_of_lt_of_le hbq' (below_old HC.out.2.2).size
        have hlv : lives q k = (x.tmod 2 != 0) := by
          unfold lives
          rw [hx, decide_eq_true hqp, Bool.true_and]
          rw [Bool.eq_iff_iff]
          simp only [bne_iff_ne, ne_eq, tmod2]
        clear hqc hz hx
        obtain ⟨j, hj⟩ : ∃ j : Nat, k % q.length = j := ⟨_, rfl⟩
        have hj' : (k : Int) % (q.length : Int) = (j : Int) := by omega
        rw [hj] at z1 hjl
        have Hj := Lib.hid hj
        clear hj
        cases hx2 : (x.tmod 2 != 0) with
        | true =>
          have HPu := Lib.hid (HPt.out (.cells #[.int .i64 (p.1 : Int), .slice (some ⟨bk, 0, none⟩) p.2.length ct] 90) (hlv.trans hx2))
          clear hlv HPt
          go_wp2_with (go_at_call 53; refine HPu.out.mono ?_; rintro e w3 ⟨A3, n3, c3, rfl, HC3⟩)
          exact ⟨⟨k + 1, by omega, by go_num, HC3⟩, by simp [intOf]; omega⟩
        | false =>
          have HSk := Lib.hid (crash_skip HC.out (by rw [List.getElem?_eq_getElem hlt, Hp.out]) (hlv.trans hx2) (.cells #[.int .i64 (p.1 : Int), .slice (some ⟨bk, 0, none⟩) p.2.length ct] 90))
          clear hlv HPt
          go_wp2_with fail
          exact ⟨⟨k + 1, by omega, by go_num, HSk⟩, by simp [intOf]; omega⟩
    · obtain ⟨Ac, cc, rfl, _⟩ := own_slice HC.out.1
      have hz : wr.heap[w.heap.size]? = some zeroDisk := (HC.out.2.2.block _ (by omega)).trans (heap_alloc_new w _)
      have hsz := HC.out.2.2.size
      rw [World.size_alloc] at hsz
      have z0 : wr.cell? ⟨w.heap.size, 0, none⟩ = some (.slice none 0 0) := cell_of_row wr w.heap.size 0 _ _ _ hz
      have fz0 : wr.frozen? ⟨w.heap.size, 0, none⟩ = false := frozen_of_row wr w.heap.size 0 _ _ hz
      have hs4 : ∀ u, (wr.setCell ⟨w.heap.size, 0, none⟩ u).heap.size = wr.heap.size := fun u => by simp [World.setCell]
      have hfl := fall_le' HD.out q k
      have HO2 : Hid (((wr.setCell ⟨w.heap.size, 0, none⟩ (.slice Ac (fall q 0 σ.syn (σ.pcs.take k)).length cc)).alloc (.cells #[] 5)).ownsRow 0 5 1 (.slice (some ⟨wr.heap.size, 0, none⟩) 0 0) 0 []) := by
        have := World.ownsRow_made (base := 0) (e := 5) (size := 1) (wr.setCell ⟨w.heap.size, 0, none⟩ (.slice Ac (fall q 0 σ.syn (σ.pcs.take k)).length cc)) #[] 0 (Nat.zero_le _) (by simp only [maxLen]; omega) rfl
        rw [hs4] at this
        exact this
      have HR2 : Hid (Reads ((wr.setCell ⟨w.heap.size, 0, none⟩ (.slice Ac (fall q 0 σ.syn (σ.pcs.take k)).length cc)).alloc (.cells #[] 5)) 1 (.slice Ac (fall q 0 σ.syn (σ.pcs.take k)).length cc) (fall q 0 σ.syn (σ.pcs.take k)).length (bys (fall q 0 σ.syn (σ.pcs.take k)))) :=
        (Reads.of_own HC.out.1).turns ((turns_one wr w.heap.size 0 _).alloc _) fun b hb e => by
          have := HC.out.2.1 b hb
          omega
      have HCl := Lib.hid (fun v5 w5 h1 h2 h3 => crash_close HD.out HC.out (by omega) (v5 := v5) (w5 := w5) h1 h2 h3)
      have hfl2 : (fall q 0 σ.syn (σ.pcs.take k)).length ≤ 16777216 := hfl
      clear hz hs4
      go_wp2_with (at_builtin; refine wpList_append_onto' _ rfl (.tmp 56) (.tmp 57) 56 rfl 5 i0 _ 1 1 Try.underlying56 hi hz0 hz1 hz2 rfl (by decide) (.slice (some ⟨wr.heap.size, 0, none⟩) 0 0) 0 [] rfl HO2.out _ _ _ rfl HR2.out (bys_one _) (by simp only [maxLen]; omega) (by omega) ?_; intro v5 w5 hown1 hg1 hat1; obtain ⟨hz5, HP⟩ := HCl.out v5 w5 hown1 hg1 hat1; obtain ⟨A5, c5, hv5, _⟩ := own_slice hown1; subst hv5; have z1 : w5.cell? ⟨w.heap.size, 1, none⟩ = some (.slice none 0 0) := cell_of_row w5 w.heap.size 1 _ _ _ hz5; have fz1 : w5.frozen? ⟨w.heap.size, 1, none⟩ = false := frozen_of_row w5 w.heap.size 1 _ _ hz5; have HP' := Lib.hid HP; clear hown1 hg1 hat1 HO2 HR2 HCl HP hz5)
      rw [Nat.zero_add] at HP'
      go_ret
      exact HP'.out
end

theorem crash_any {w : World} {g : Nat} {σ : DS} {S : Nat → Prop} (h : IsDisk w g σ S) (v : Value) (q : List Int) (hq : Reads w 1 v q.length (q.map (.int .i64))) :
    Calls Try.prog 30 #[.pointer (some ⟨g, 0, none⟩), v] w (CPost w σ q) := by
  obtain ⟨vn, vs, vp, l, xs, d⟩ := h
  have hq0 := hq
  obtain ⟨B, cq, rfl, _⟩ := hq
  exact crash_yes d B cq q hq0

theorem isDisk_new (w : World) : IsDisk (w.alloc zeroDisk) w.heap.size DS.new (· = w.heap.size) :=
  ⟨_, _, _, _, _, ⟨heap_alloc_new w _, fun h => by simp [DS.new] at h, World.ownsRow_nil _ _ _ _, World.ownsRow_nil _ _ _ _, World.ownsRow_nil _ _ _ _, rfl, .inl rfl, rfl, fun k hk => by simp [Value.ownBlock] at hk, fun k hk => by simp [Value.ownBlock] at hk, fun k hk => by simp [Value.ownBlock] at hk,
    fun k hk => by rw [show k = w.heap.size from hk]; simp, DS.ok_new⟩⟩

/-- New's contract: a new disk. -/
theorem new_is (w : World) : Calls Try.prog 21 #[] w fun e w' => e = .returned (.pointer (some ⟨w.heap.size, 0, none⟩)) ∧ w' = w.alloc zeroDisk := new_any w

/-! ### the nil disk -/
set_option maxHeartbeats 400000 in
theorem crash_nil (w : World) (v : Value) : Calls Try.prog 30 #[.pointer none, v] w fun e w' => e = .returned (.pointer (some ⟨w.heap.size, 0, none⟩)) ∧ w' = w.alloc zeroDisk := by
  go_enter Try.func30, Try.ntmps30
  go_wp2_with (go_at_call 21; refine (new_any _).mono ?_; rintro e w1 ⟨rfl, rfl⟩)
  go_ret
  exact ⟨rfl, rfl⟩
set_option maxHeartbeats 400000 in
theorem size_nil (w : World) : Calls Try.prog 24 #[.pointer none] w fun e w' => e = .returned (.int .i64 0) ∧ w = w' := by
  go_enter Try.func24, Try.ntmps24
  go_wp2
  go_ret
  exact ⟨rfl, rfl⟩
set_option maxHeartbeats 400000 in
theorem calls_nil (w : World) : Calls Try.prog 26 #[.pointer none] w fun e w' => e = .returned (.int .i64 0) ∧ w = w' := by
  go_enter Try.func26, Try.ntmps26
  go_wp2
  go_ret
  exact ⟨rfl, rfl⟩
set_option maxHeartbeats 400000 in
theorem read_nil (w : World) (off n : Int) : Calls Try.prog 36 #[.pointer none, .int .i64 off, .int .i64 n] w fun e w' => e = .returned (.string (str [])) ∧ w = w' := by
  go_enter Try.func36, Try.ntmps36
  go_wp2
  go_ret
  exact ⟨rfl, rfl⟩
set_option maxHeartbeats 400000 in
theorem write_nil (w : World) (off : Int) (s : ByteArray) : Calls Try.prog 34 #[.pointer none, .int .i64 off, .string s] w fun e w' => e = .returned (.int .i64 1) ∧ w = w' := by
  go_enter Try.func34, Try.ntmps34
  go_wp2
  go_ret
  exact ⟨rfl, rfl⟩
set_option maxHeartbeats 400000 in
theorem sync_nil (w : World) : Calls Try.prog 35 #[.pointer none] w fun e w' => e = .returned (.int .i64 1) ∧ w = w' := by
  go_enter Try.func35, Try.ntmps35
  go_wp2
  go_ret
  exact ⟨rfl, rfl⟩
set_option maxHeartbeats 400000 in
theorem fail_nil (w : World) (n : Int) : Calls Try.prog 37 #[.pointer none, .int .i64 n] w fun e w' => e = .returned (.tuple #[]) ∧ w = w' := by
  go_enter Try.func37, Try.ntmps37
  go_wp2
  go_end0
  exact ⟨rfl, rfl⟩
end Go.Proofs.Ytnfmcmjfpbmloaa
