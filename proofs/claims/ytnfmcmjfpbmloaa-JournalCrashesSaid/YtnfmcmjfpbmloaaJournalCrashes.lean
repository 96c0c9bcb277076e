/-
  Proved: for all records, all numbers and all survivors JournalCrashes returns true, and changes nothing that was there before the call. No conditions.
-/
import Derived.Test.YtnfmcmjfpbmloaaJrQ
namespace Go.Proofs.Ytnfmcmjfpbmloaa
open Go.RowKit Go.ChangeShapes Go.WideShapes Go.ChangeAt
open Go.ChangeMaps (open_string shut_string)

theorem opens_either {w0 w : World} {L0 : List HP} {gm : Nat} {L mb got : List (List UInt8)} {y : Int} {br : Bool} {v : Value} (h : RJ w0 w gm L mb br y L0) (i : Nat) (hi : L0[i]? = some (sl v got)) (h1 : got.length ≤ 30) (h2 : L.length ≤ 30) (h3 : bs got ≤ 100000) (h4 : got = L ∨ ∃ r0, got = L ++ [r0] ∧ mb = [] ++ [r0] ∧ br = true ∧ mb.length ≤ 1000) :
    Calls Try.prog 47 #[.pointer (some ⟨gm, 0, none⟩), v] w fun r w' => r = .returned (.bool true) ∧ RJ w0 w' gm got [] false (bs got) L0 := by
  rcases h4 with h4 | ⟨r0, h4, h5, h6, h7⟩
  · exact opens_same h i hi (by omega) (by omega) (by omega) h4
  · exact opens_maybe h i hi (by omega) (by omega) (by omega) h5 h4 h6 h7

/-- Between two rounds. -/
def CrAt (w wr : World) (gm k jb gd : Nat) (L : List (List UInt8)) : Prop :=
  ∃ (σ : DS) (vM : Value) (e : Nat) (AL : Option Addr) (cL : Nat), GJ σ L e ∧ σ.n ≤ 4 * k + 5 ∧ L.length ≤ k ∧ bs L ≤ k * 216 ∧ At w wr (jn jb gd L.length (bs L) e false :: dk gd σ :: rjL gm (.slice AL L.length cL) vM L [] false (bs L) [])
theorem CrAt.at {w wr : World} {gm k jb gd : Nat} {L : List (List UInt8)} (h : CrAt w wr gm k jb gd L) : ∃ L', At w wr L' := by
  obtain ⟨σ, vM, e, AL, cL, _, _, _, _, hA⟩ := h
  exact ⟨_, hA⟩
theorem CrAt.fail {w wr : World} {gm k jb gd : Nat} {L : List (List UInt8)} (h : CrAt w wr gm k jb gd L) (n : Int) (hn : n ≤ 9223372036854775807) : Calls Try.prog 37 #[.pointer (some ⟨gd, 0, none⟩), .int .i64 n] wr fun r w' => r = .returned (.tuple #[]) ∧ CrAt w w' gm k jb gd L := by
  obtain ⟨σ, vM, e, AL, cL, hG, h1, h2, h3, hA⟩ := h
  refine (at_fail hA 1 rfl n hn).mono ?_
  rintro r w' ⟨rfl, h⟩
  exact ⟨rfl, σ.fail n, vM, e, AL, cL, gj_fail hG n, h1, h2, h3, h⟩

/-- Half a round: the journal has appended and answered c; the reference has not yet. -/
def CrHalf (w wr : World) (gm k jb gd : Nat) (L : List (List UInt8)) (s : ByteArray) (c : Int) : Prop :=
  ∃ (σ : DS) (vM : Value) (e : Nat) (AL : Option Addr) (cL : Nat), After L e (sh s).data.toList (σ, c) ∧ σ.n ≤ 4 * k + 9 ∧ L.length ≤ k ∧ bs L ≤ k * 216 ∧
    At w wr ((if c = 0 then jn jb gd (L ++ [(sh s).data.toList]).length (bs (L ++ [(sh s).data.toList])) (e + 4 + (sh s).data.toList.length : Nat) false else jn jb gd L.length (bs L) e true) :: dk gd σ :: rjL gm (.slice AL L.length cL) vM L [] false (bs L) [])
theorem CrHalf.at {w wr : World} {gm k jb gd : Nat} {L : List (List UInt8)} {s : ByteArray} {c : Int} (h : CrHalf w wr gm k jb gd L s c) : ∃ L', At w wr L' := by
  obtain ⟨σ, vM, e, AL, cL, _, _, _, _, hA⟩ := h
  exact ⟨_, hA⟩
theorem CrAt.append {w wr : World} {gm k jb gd : Nat} {L : List (List UInt8)} (h : CrAt w wr gm k jb gd L) (hk : k ≤ 20) (s : ByteArray) : Calls Try.prog 43 #[.pointer (some ⟨jb, 0, none⟩), .string (sh s)] wr fun r w' => ∃ c, r = .returned (.int .i64 c) ∧ (c = 0 ∨ c = 70) ∧ CrHalf w w' gm k jb gd L s c := by
  have hsr := sh_size s
  obtain ⟨σ, vM, e, AL, cL, hG, h1, h2, h3, hA⟩ := h
  refine (at_append hA hG (sh s) (by omega) (by omega)).mono ?_
  rintro r w' ⟨σ', c, rfl, hAf, hn, _, hA'⟩
  refine ⟨c, rfl, ?_, σ', vM, e, AL, cL, hAf, by omega, h2, h3, hA'⟩
  rcases hAf with ⟨h, _⟩ | ⟨h, _⟩
  · exact .inl h
  · exact .inr h
theorem CrHalf.yes {w wr : World} {gm k jb gd : Nat} {L : List (List UInt8)} {s : ByteArray} (h : CrHalf w wr gm k jb gd L s 0) (hk : k ≤ 20) : Calls Try.prog 45 #[.pointer (some ⟨gm, 0, none⟩), .string (sh s), .bool true] wr fun r w' => (∃ v, r = .returned v) ∧ CrAt w w' gm (k + 1) jb gd (L ++ [(sh s).data.toList]) := by
  have hsr := sh_size s
  have hsl : (sh s).data.toList.length = (sh s).size := by rw [Array.length_toList]; rfl
  obtain ⟨σ, vM, e, AL, cL, hAf, h1, h2, h3, hA⟩ := h
  rw [if_pos rfl] at hA
  refine (rappend_yes (rj_front hA) (sh s) (by omega) (by omega) (by omega) (by omega)).mono ?_
  rintro r w' ⟨rfl, hR⟩
  refine ⟨⟨_, rfl⟩, ?_⟩
  obtain ⟨A, c', vM', hB⟩ := rj_back hR
  rcases hAf with ⟨_, hG⟩ | ⟨h0, _⟩
  · have e2 : (bs L : Int) + ((sh s).size : Int) + 16 = (bs (L ++ [(sh s).data.toList]) : Int) := by rw [bs_append]; simp [bs, hsl]; omega
    rw [e2] at hB
    exact ⟨σ, vM', _, A, c', hG, by omega, by simp; omega, by rw [bs_append]; simp only [bs, hsl]; omega, hB⟩
  · exact absurd (show (0 : Int) = 70 from h0) (by decide)

/-- The power has failed. -/
def CrBad (w wr : World) (gm k jb gd : Nat) (L : List (List UInt8)) (r0 : List UInt8) (e : Nat) (σ : DS) (vM : Value) (AL : Option Addr) (cL : Nat) : Prop :=
  (∀ q, Holds (σ.crash q).now L e ∨ Holds (σ.crash q).now (L ++ [r0]) (e + 4 + r0.length)) ∧ L.length ≤ k ∧ bs L ≤ k * 216 ∧ r0.length ≤ 200 ∧
    At w wr (jn jb gd L.length (bs L) e true :: dk gd σ :: rjL gm (.slice AL L.length cL) vM L [r0] true (bs L) [])
theorem CrHalf.no {w wr : World} {gm k jb gd : Nat} {L : List (List UInt8)} {s : ByteArray} (h : CrHalf w wr gm k jb gd L s 70) (hk : k ≤ 20) : Calls Try.prog 45 #[.pointer (some ⟨gm, 0, none⟩), .string (sh s), .bool false] wr fun r w' => (∃ v, r = .returned v) ∧ ∃ e σ vM AL cL, CrBad w w' gm k jb gd L (sh s).data.toList e σ vM AL cL := by
  have hsr := sh_size s
  have hsl : (sh s).data.toList.length = (sh s).size := by rw [Array.length_toList]; rfl
  obtain ⟨σ, vM, e, AL, cL, hAf, h1, h2, h3, hA⟩ := h
  rw [if_neg (by decide)] at hA
  refine (rappend_no (rj_front hA) (sh s) (by omega) (by omega) (by omega) (by simp)).mono ?_
  rintro r w' ⟨rfl, hR⟩
  refine ⟨⟨_, rfl⟩, ?_⟩
  obtain ⟨A, c', vM', hB⟩ := rj_back hR
  rcases hAf with ⟨h0, _⟩ | ⟨_, _, hq⟩
  · exact absurd (show (70 : Int) = 0 from h0) (by decide)
  · exact ⟨e, σ, vM', A, c', hq, h2, h3, by omega, hB⟩
theorem CrBad.drew {w wr : World} {gm k jb gd : Nat} {L : List (List UInt8)} {r0 : List UInt8} {e : Nat} {σ : DS} {vM : Value} {AL : Option Addr} {cL : Nat} (h : CrBad w wr gm k jb gd L r0 e σ vM AL cL) : CrBad w wr.drew gm k jb gd L r0 e σ vM AL cL := ⟨h.1, h.2.1, h.2.2.1, h.2.2.2.1, h.2.2.2.2.drew⟩
theorem CrBad.cell {w wr : World} {gm k jb gd : Nat} {L : List (List UInt8)} {r0 : List UInt8} {e : Nat} {σ : DS} {vM : Value} {AL : Option Addr} {cL : Nat} (h : CrBad w wr gm k jb gd L r0 e σ vM AL cL) : wr.cell? ⟨gm, 0, none⟩ = some (.slice AL L.length cL) := h.2.2.2.2.cell 2 rfl 0 _ rfl
theorem CrBad.append {w wr : World} {gm k jb gd : Nat} {L : List (List UInt8)} {r0 : List UInt8} {e : Nat} {σ : DS} {vM : Value} {AL : Option Addr} {cL : Nat} (h : CrBad w wr gm k jb gd L r0 e σ vM AL cL) (s : ByteArray) : Calls Try.prog 43 #[.pointer (some ⟨jb, 0, none⟩), .string s] wr fun r w' => r = .returned (.int .i64 70) ∧ CrBad w w' gm k jb gd L r0 e σ vM AL cL := by
  refine (append_broken h.2.2.2.2 s).mono ?_
  rintro r w' ⟨rfl, hA⟩
  exact ⟨rfl, h.1, h.2.1, h.2.2.1, h.2.2.2.1, hA⟩
theorem CrBad.crash {w wr : World} {gm k jb gd : Nat} {L : List (List UInt8)} {r0 : List UInt8} {e : Nat} {σ : DS} {vM : Value} {AL : Option Addr} {cL : Nat} (h : CrBad w wr gm k jb gd L r0 e σ vM AL cL) (vq : Value) (q : List Int) (hq : Reads w 1 vq q.length (q.map (.int .i64))) :
    Calls Try.prog 30 #[.pointer (some ⟨gd, 0, none⟩), vq] wr fun r w' => ∃ gc got e2, r = .returned (.pointer (some ⟨gc, 0, none⟩)) ∧ Hid (Holds (σ.crash q).now got e2 ∧ got.length ≤ k + 1 ∧ bs got ≤ (k + 1) * 216 ∧ L.length ≤ k ∧ (got = L ∨ ∃ r1, got = L ++ [r1] ∧ [r0] = [] ++ [r1])) ∧
      Hid (At w w' (dk gc (σ.crash q) :: jn jb gd L.length (bs L) e true :: dk gd σ :: rjL gm (.slice AL L.length cL) vM L [r0] true (bs L) [])) := by
  obtain ⟨hq1, h1, h2, h3, hA⟩ := h
  refine (at_crash hA 1 rfl vq q (hA.reads hq)).mono ?_
  rintro r w' ⟨rfl, h5⟩
  rcases hq1 q with h6 | h6
  · exact ⟨_, L, e, rfl, ⟨h6, by omega, by omega, h1, .inl rfl⟩, h5⟩
  · exact ⟨_, L ++ [r0], _, rfl, ⟨h6, by simp; omega, by rw [bs_append]; simp only [bs]; omega, h1, .inr ⟨r0, rfl, rfl⟩⟩, h5⟩
theorem nums_at2 {kd : IntKind} {w0 : World} {A : Option Addr} {n c : Nat} {l : List Int} (hr : NumsIn kd w0 (.slice A n c) l) (hl : l.length = n) (k : Nat) (x : Int) (hk : l[k]? = some x) : ∃ b off, A = some ⟨b, off, none⟩ ∧ (∀ {w' : World} {L' : List HP}, At w0 w' L' → w'.cell? ⟨b, off + k, none⟩ = some (.int kd x)) ∧ (Lit.int kd x).wf = true := by
  have hkl : k < l.length := (List.getElem?_eq_some_iff.1 hk).1
  have hr1 := hr.1
  rw [hl] at hr1
  obtain ⟨b, off, rfl, hb, hc⟩ := hr1.elem (by omega) (by omega)
  refine ⟨b, off, rfl, fun {w' L'} h' => ?_, hr.2 x (List.mem_of_getElem? hk)⟩
  rw [h'.below.cell (p := ⟨b, off + k, none⟩) hb, hc k (by simp; omega)]
  simp [hk]

set_option maxRecDepth 100000 in
set_option maxHeartbeats 8000000 in
theorem journalCrashes_walk (w : World) (v : Value) (l : List ByteArray) (hl : StrsIn w v l) (vf : Value) (fl : List Int) (hf : NumsIn .u8 w vf fl) (vq : Value) (q : List Int) (hq : Reads w 1 vq q.length (q.map (.int .i64))) :
    Calls Try.prog 14 #[v, vf, vq] w fun e w' => e = .returned (.bool true) ∧ Below w.heap.size w w' := by
  have hl0 := hl
  have hf0 := hf
  obtain ⟨⟨A0, c0, rfl, -, -⟩, -⟩ := hl
  obtain ⟨⟨A1, c1, rfl, -, -⟩, -⟩ := hf
  have Hl := Lib.hid hl0
  have Hf := Lib.hid hf0
  have Hq := Lib.hid hq
  clear hl0 hq hf0
  go_enter Try.func14, Try.ntmps14
  go_wp2_with fail
  refine (sanity34_any _).mono ?_
  rintro e w1 ⟨rfl, hb⟩
  have HA4 := Lib.hid ((At.start w).keep (Turns.below (S := No) hb))
  clear hb
  go_wp2_with fail
  refine (at_new HA4.out).mono ?_
  rintro r w5 ⟨rfl, h5⟩
  have HA5 := Lib.hid h5
  clear h5 HA4
  generalize w1.heap.size = gd at *
  go_wp2_with fail
  refine (at_openJ HA5.out (by decide) rfl holds_nil).mono ?_
  rintro r w6 ⟨jb, A, c, σ1, rfl, HG1, HA6⟩
  clear HA5
  go_wp2_with fail
  refine (rnew34_any (HA6.out.front 2 rfl).tail).mono ?_
  rintro r w7 ⟨rfl, h7⟩
  obtain ⟨AL, cL, vM, h7⟩ := rj_back h7
  have HS7 : Hid (CrAt w w7 w6.heap.size 0 jb gd []) := ⟨σ1, vM, 64, AL, cL, HG1.out.1, by have := HG1.out.2.2; have : DS.new.n = 0 := rfl; omega, by simp, by simp [bs], h7⟩
  clear h7 HA6
  generalize w6.heap.size = gm at *
  go_wp2_with fail
  go_loopw [8, 9, 11, 13] (fun d j ec i wr => ∃ (k jb gd : Nat) (L : List (List UInt8)), k ≤ 20 ∧ k ≤ l.length ∧ d = .pointer (some ⟨gd, 0, none⟩) ∧ j = .pointer (some ⟨jb, 0, none⟩) ∧ ec = .int .i64 0 ∧ i = .int .i64 (k : Int) ∧ Hid (CrAt w wr gm k jb gd L)) (fun _ _ _ i _ => 20 - (intOf i).toNat)
  case atStart => exact ⟨0, jb, gd, [], by omega, by omega, rfl, rfl, rfl, rfl, HS7⟩
  case round =>
    clear HG1
    obtain ⟨k, jb, gd, L, hk5, hkl, rfl, rfl, rfl, rfl, HS⟩ := hrel
    by_cases hlt : k < l.length ∧ k < 20
    · obtain ⟨hlt, hk40⟩ := hlt
      obtain ⟨s, hs⟩ : ∃ s, l[k]? = some s := ⟨_, List.getElem?_eq_getElem hlt⟩
      obtain ⟨b1, o1, hA, hcc, hsz⟩ := strs_at2 Hl.out rfl k s hs
      subst hA
      have HCC : Hid (∀ {w' : World} {L' : List HP}, At w w' L' → w'.cell? ⟨b1, o1 + k, none⟩ = some (.string s)) := hcc
      have HSZ := Lib.hid hsz
      clear hcc hs hsz
      have hlI : (k : Int) < (l.length : Int) := by omega
      have hkI : (k : Int) < 20 := by omega
      by_cases hfl : 0 < fl.length
      · have hflI : (fl.length : Int) > 0 := by omega
        have hmk : k % fl.length < fl.length := Nat.mod_lt _ hfl
        obtain ⟨x, hx⟩ : ∃ x, fl[k % fl.length]? = some x := ⟨_, List.getElem?_eq_getElem hmk⟩
        obtain ⟨b2, o2, hA2, hcc2, hwf⟩ := nums_at2 Hf.out rfl _ x hx
        subst hA2
        have hx8 := bounds_u8 hwf
        have hxc : wr.cell? ⟨b2, o2 + k % fl.length, none⟩ = some (.int .u8 x) := by obtain ⟨L', hL'⟩ := HS.out.at; exact hcc2 hL'
        clear hcc2 hwf hx
        obtain ⟨km, hkm⟩ : ∃ km, k % fl.length = km := ⟨_, rfl⟩
        have hmodI : (k : Int) % (fl.length : Int) = (km : Int) := by rw [← hkm]; exact (Int.natCast_emod _ _).symm
        have hmodT : Int.tmod (k : Int) (fl.length : Int) = (km : Int) := by rw [Int.tmod_eq_emod_of_nonneg (by omega)]; exact hmodI
        rw [hkm] at hmk hxc
        clear hkm
        have hx9a : Int.tmod x 9 = x % 9 := Int.tmod_eq_emod_of_nonneg hx8.1
        have hx9b : 0 ≤ x % 9 ∧ x % 9 < 9 := by omega
        have hneI : (fl.length : Int) ≠ 0 := by omega
        have hmkI : (km : Int) < (fl.length : Int) := by omega
        go_wp2_with fail
        refine (HS.out.fail _ (by omega)).mono ?_
        rintro r w8 ⟨rfl, h8⟩
        have HX := Lib.hid h8
        have hx0 : w8.cell? ⟨b1, o1 + k, none⟩ = some (.string s) := by obtain ⟨L', hL'⟩ := h8.at; exact HCC.out hL'
        clear h8 HS
        go_wp2_with fail
        refine (short_any _ s HSZ.out).mono ?_
        rintro r w9 ⟨rfl, rfl⟩
        go_wp2_with fail
        refine (HX.out.append hk5 s).mono ?_
        rintro r w9 ⟨cc, rfl, hcc, h9⟩
        have hx9 : w9.cell? ⟨b1, o1 + k, none⟩ = some (.string s) := by obtain ⟨L', hL'⟩ := h9.at; exact HCC.out hL'
        rcases hcc with rfl | rfl
        · have HY := Lib.hid h9
          clear h9 HX
          go_wp2_with fail
          refine (short_any _ s HSZ.out).mono ?_
          rintro r w10 ⟨rfl, rfl⟩
          go_wp2_with fail
          refine (HY.out.yes hk5).mono ?_
          rintro r w10 ⟨⟨vv, rfl⟩, h10⟩
          have HZ := Lib.hid h10
          clear h10 HY
          go_wp2_with fail
          refine (HZ.out.fail (-1) (by decide)).mono ?_
          rintro r w11 ⟨rfl, h11⟩
          have HV := Lib.hid h11
          clear h11 HZ
          go_wp2_with fail
          exact ⟨⟨k + 1, jb, gd, _, by omega, by omega, rfl, rfl, rfl, by go_num, HV⟩, by simp [intOf]; omega⟩
        · have HY := Lib.hid h9
          clear h9 HX
          go_wp2_with fail
          refine (short_any _ s HSZ.out).mono ?_
          rintro r w10 ⟨rfl, rfl⟩
          go_wp2_with fail
          refine (HY.out.no hk5).mono ?_
          rintro r w10 ⟨⟨vv, rfl⟩, e, σ, vM, AL, cL, h10⟩
          have HZ := Lib.hid h10.drew
          have hz0 := h10.cell
          clear h10 HY
          go_wp2_with fail
          go_region_held3 (fun w' => w'.cell? ⟨gm, 0, none⟩ = some (.slice AL L.length cL))
            (first
              | exact HV.out.cell
              | exact HZ.out.cell)
            (first
              | (go_at_call 43; refine (HZ.out.append _).mono ?_; rintro r w11 ⟨rfl, h11⟩; have HV := Lib.hid h11; clear h11)
              | (go_at_call 46; refine (many_any HV.out.2.2.2.2 0 rfl).mono ?_; rintro r w12 ⟨rfl, rfl⟩))
          go_wp2_with fail
          refine (HV.out.crash vq q Hq.out).mono ?_
          rintro r w12 ⟨gc, got, e2, rfl, HH, HA12⟩
          clear HV HZ
          go_wp2_with fail
          refine (at_openJ HA12.out (show (0 : Nat) < _ by decide) rfl HH.out.1).mono ?_
          rintro r w13 ⟨jb2, A2, c2, σ2, rfl, HG2, HA13⟩
          have h13 : RJ w w13 gm L [(sh s).data.toList] true (bs L) [jn jb2 gc got.length (bs got) e2 false, dk gc σ2, sl (.slice A2 got.length c2) got, jn jb gd L.length (bs L) e true, dk gd σ] :=
            ⟨.slice AL L.length cL, vM, HA13.out.perm (List.perm_append_comm (l₁ := [jn jb2 gc got.length (bs got) e2 false, dk gc σ2, sl (.slice A2 got.length c2) got, jn jb gd L.length (bs L) e true, dk gd σ]) (l₂ := [bl gm 74 #[.slice AL L.length cL, vM, .bool true, .int .i64 (bs L)], sl (.slice AL L.length cL) L, sl vM [(sh s).data.toList]]))⟩
          have HR := Lib.hid h13
          clear h13 HA13 HA12
          go_wp2_with fail
          refine (opens_either HR.out 2 rfl (by have := HH.out.2.1; omega) (by have := HH.out.2.2.2.1; omega) (by have := HH.out.2.2.1; omega) (HH.out.2.2.2.2.imp id fun ⟨r1, h, h'⟩ => ⟨r1, h, h', rfl, by simp⟩)).mono ?_
          rintro r w14 ⟨rfl, vL', vM', h14⟩
          have h15 : RJ w w14 gm got [] false (bs got) [jn jb2 gc got.length (bs got) e2 false, dk gc σ2] := ⟨vL', vM', (((((h14.front 7 rfl).tail).front 6 rfl).tail).front 5 rfl).tail⟩
          obtain ⟨A5, c5, vM5, h16⟩ := rj_back h15
          have HV : Hid (CrAt w w14 gm (k + 1) jb2 gc got) := ⟨σ2, vM5, e2, A5, c5, HG2.out.1, by have := HG2.out.2.2; have : (σ.crash q).n = 0 := rfl; omega, HH.out.2.1, HH.out.2.2.1, h16⟩
          clear h14 h15 h16 HR
          go_wp2_with fail
          exact ⟨⟨k + 1, jb2, gc, got, by omega, by omega, rfl, rfl, rfl, by go_num, HV⟩, by simp [intOf]; omega⟩
      · have hflI : ¬ (fl.length : Int) > 0 := by omega
        have HX := Lib.hid HS.out
        have hx0 : wr.cell? ⟨b1, o1 + k, none⟩ = some (.string s) := by obtain ⟨L', hL'⟩ := HS.out.at; exact HCC.out hL'
        clear HS
        go_wp2_with fail
        refine (short_any _ s HSZ.out).mono ?_
        rintro r w9 ⟨rfl, rfl⟩
        go_wp2_with fail
        refine (HX.out.append hk5 s).mono ?_
        rintro r w9 ⟨cc, rfl, hcc, h9⟩
        have hx9 : w9.cell? ⟨b1, o1 + k, none⟩ = some (.string s) := by obtain ⟨L', hL'⟩ := h9.at; exact HCC.out hL'
        rcases hcc with rfl | rfl
        · have HY := Lib.hid h9
          clear h9 HX
          go_wp2_with fail
          refine (short_any _ s HSZ.out).mono ?_
          rintro r w10 ⟨rfl, rfl⟩
          go_wp2_with fail
          refine (HY.out.yes hk5).mono ?_
          rintro r w10 ⟨⟨vv, rfl⟩, h10⟩
          have HZ := Lib.hid h10
          clear h10 HY
          go_wp2_with fail
          refine (HZ.out.fail (-1) (by decide)).mono ?_
          rintro r w11 ⟨rfl, h11⟩
          have HV := Lib.hid h11
          clear h11 HZ
          go_wp2_with fail
          exact ⟨⟨k + 1, jb, gd, _, by omega, by omega, rfl, rfl, rfl, by go_num, HV⟩, by simp [intOf]; omega⟩
        · have HY := Lib.hid h9
          clear h9 HX
          go_wp2_with fail
          refine (short_any _ s HSZ.out).mono ?_
          rintro r w10 ⟨rfl, rfl⟩
          go_wp2_with fail
          refine (HY.out.no hk5).mono ?_
          rintro r w10 ⟨⟨vv, rfl⟩, e, σ, vM, AL, cL, h10⟩
          have HZ := Lib.hid h10.drew
          have hz0 := h10.cell
          clear h10 HY
          go_wp2_with fail
          go_region_held3 (fun w' => w'.cell? ⟨gm, 0, none⟩ = some (.slice AL L.length cL))
            (first
              | exact HV.out.cell
              | exact HZ.out.cell)
            (first
              | (go_at_call 43; refine (HZ.out.append _).mono ?_; rintro r w11 ⟨rfl, h11⟩; have HV := Lib.hid h11; clear h11)
              | (go_at_call 46; refine (many_any HV.out.2.2.2.2 0 rfl).mono ?_; rintro r w12 ⟨rfl, rfl⟩))
          go_wp2_with fail
          refine (HV.out.crash vq q Hq.out).mono ?_
          rintro r w12 ⟨gc, got, e2, rfl, HH, HA12⟩
          clear HV HZ
          go_wp2_with fail
          refine (at_openJ HA12.out (show (0 : Nat) < _ by decide) rfl HH.out.1).mono ?_
          rintro r w13 ⟨jb2, A2, c2, σ2, rfl, HG2, HA13⟩
          have h13 : RJ w w13 gm L [(sh s).data.toList] true (bs L) [jn jb2 gc got.length (bs got) e2 false, dk gc σ2, sl (.slice A2 got.length c2) got, jn jb gd L.length (bs L) e true, dk gd σ] :=
            ⟨.slice AL L.length cL, vM, HA13.out.perm (List.perm_append_comm (l₁ := [jn jb2 gc got.length (bs got) e2 false, dk gc σ2, sl (.slice A2 got.length c2) got, jn jb gd L.length (bs L) e true, dk gd σ]) (l₂ := [bl gm 74 #[.slice AL L.length cL, vM, .bool true, .int .i64 (bs L)], sl (.slice AL L.length cL) L, sl vM [(sh s).data.toList]]))⟩
          have HR := Lib.hid h13
          clear h13 HA13 HA12
          go_wp2_with fail
          refine (opens_either HR.out 2 rfl (by have := HH.out.2.1; omega) (by have := HH.out.2.2.2.1; omega) (by have := HH.out.2.2.1; omega) (HH.out.2.2.2.2.imp id fun ⟨r1, h, h'⟩ => ⟨r1, h, h', rfl, by simp⟩)).mono ?_
          rintro r w14 ⟨rfl, vL', vM', h14⟩
          have h15 : RJ w w14 gm got [] false (bs got) [jn jb2 gc got.length (bs got) e2 false, dk gc σ2] := ⟨vL', vM', (((((h14.front 7 rfl).tail).front 6 rfl).tail).front 5 rfl).tail⟩
          obtain ⟨A5, c5, vM5, h16⟩ := rj_back h15
          have HV : Hid (CrAt w w14 gm (k + 1) jb2 gc got) := ⟨σ2, vM5, e2, A5, c5, HG2.out.1, by have := HG2.out.2.2; have : (σ.crash q).n = 0 := rfl; omega, HH.out.2.1, HH.out.2.2.1, h16⟩
          clear h14 h15 h16 HR
          go_wp2_with fail
          exact ⟨⟨k + 1, jb2, gc, got, by omega, by omega, rfl, rfl, rfl, by go_num, HV⟩, by simp [intOf]; omega⟩
    · have hor : (¬ ((k : Int) < (l.length : Int)) ∧ k ≤ 20) ∨ ((k : Int) < (l.length : Int) ∧ ¬ ((k : Int) < 20)) := by omega
      clear hlt
      obtain ⟨σ, vM, e, AL, cL, hG, h1, h2, h3, hA⟩ := HS.out
      have HG := Lib.hid hG
      have HA := Lib.hid hA
      have HL := Lib.hid h2
      clear HS hG hA h2 h3 h1
      rcases hor with ⟨h1, _⟩ | ⟨h1, h2⟩
      all_goals
        go_wp2_with fail
        refine (at_crash HA.out 1 rfl vq q (HA.out.reads Hq.out)).mono ?_
        rintro r w11 ⟨rfl, h11⟩
        have HA11 := Lib.hid h11
        clear h11 HA
        generalize wr.heap.size = gc at *
        go_wp2_with fail
        refine (at_openJ HA11.out (show (0 : Nat) < _ by decide) rfl (HG.out.crash_holds q)).mono ?_
        rintro r w12 ⟨jb3, A3, c3, σ4, rfl, HG4, HA12⟩
        clear HA11
        have z12 := HA12.out.cell 5 rfl 0 _ rfl
        go_wp2_with fail
        refine (at_same HA12.out (a := L) (b := L) (HA12.out.list 2 rfl) (HA12.out.list 6 rfl) (by have := HL.out; omega) (by have := HL.out; omega)).mono ?_
        rintro r w13 ⟨rfl, h13⟩
        have HA13 := Lib.hid h13
        clear h13
        rw [decide_eq_true rfl]
        go_wp2_with fail
        go_ret
        exact ⟨rfl, HA13.out.below⟩

set_option maxRecDepth 100000 in
theorem journalCrashes_lifted (os : Os) (started : os.Started) (H : Type) (enc : TypeId × Value → H) :
    ReturnsInHanded {} Try.checked os 14 .any (Rows.journalCrashesSpec.pre6 enc Try.prog Try.f14 Rows.journalCrashesRow.domain false) (Rows.journalCrashesSpec.post enc Try.prog Try.f14 false true false false) := by
  refine returnsInHanded_of_change (C := Try.checked) own_knob started (by kernel_rfl) Try.func14
    (ChangeSpec.witness6 (enc := enc) (C := Try.checked) false ⟨#[], #[.slice none 0 0, .slice none 0 0, .slice none 0 0], []⟩ 8 (by kernel_rfl) (by kernel_rfl) (by kernel_rfl) (by kernel_rfl)) ?_
  intro W base args ds gs before hval0 hW hcnd _
  have hval : ∀ (j : Nat) t v, Try.f14.params[j]? = some t → args[j]? = some v → Value.okWide Try.prog W .any base t v := hval0
  have hW' := hW
  obtain ⟨p, q, hA0, hV, rfl, hfz, hnd⟩ := hW
  have hA : DataW.TrodAll enc Try.prog W 0 (fun _ => true) true Try.f14.params.toList args.toList ds p := hA0
  rw [Try.params14] at hA hval
  obtain ⟨v0, vs0, d0, ds0, p0, q0, hargs, rfl, rfl, h0, r0⟩ := trodAll_cons hA
  obtain ⟨v1, vs1, d1, ds1, p1, q1, rfl, rfl, rfl, h1, r1⟩ := trodAll_cons r0
  obtain ⟨v2, vs2, d2, ds2, p2, q2, rfl, rfl, rfl, h2, r2⟩ := trodAll_cons r1
  obtain ⟨rfl, rfl, rfl⟩ := trodAll_nil r2
  obtain rfl : args = #[v0, v1, v2] := by cases args; simp_all
  obtain ⟨rfl, rfl⟩ := trodVars_none hV
  clear hA0 hval0
  have lt0 : ∀ x ∈ p0, x.block < W.heap.size := by obtain ⟨m, hm⟩ := h0; exact DataW.trod_lt m _ _ _ hm
  obtain ⟨l0, R0⟩ := arg_strs (hval 0 64 v0 rfl rfl) h0
  have lt1 : ∀ x ∈ p1, x.block < W.heap.size := by obtain ⟨m, hm⟩ := h1; exact DataW.trod_lt m _ _ _ hm
  obtain ⟨l1, R1⟩ := arg_u8s (hval 1 56 v1 rfl rfl) h1
  have lt2 : ∀ x ∈ p2, x.block < W.heap.size := by obtain ⟨m, hm⟩ := h2; exact DataW.trod_lt m _ _ _ hm
  obtain ⟨l2, R2⟩ := arg_ints (hval 2 36 v2 rfl rfl) h2
  refine (journalCrashes_walk W v0 l0 R0 v1 l1 R1 v2 l2 R2).mono fun e W' ⟨he, bel⟩ => ?_
  subst he
  exact ⟨_, rfl, _, _, _, [], _, [], hW', trodAll_mk1 (shut_bool Try.underlying4 _), (trodAll_cons_mk (Below.trod laid_out (by kernel_rfl) (of_decide_eq_true (by kernel_rfl)) h0 bel lt0) (trodAll_cons_mk (Below.trod laid_out (by kernel_rfl) (of_decide_eq_true (by kernel_rfl)) h1 bel lt1) (trodAll_cons_mk (Below.trod laid_out (by kernel_rfl) (of_decide_eq_true (by kernel_rfl)) h2 bel lt2) trodAll_mk0))), rfl, bel.frame _, fun h => by cases h⟩

theorem journalCrashes_holds : Rows.JournalCrashesSaid :=
  OpenClaim.holds_of_wide 14 Try.f14 rfl rfl rfl rfl rfl rfl rfl ⟨rfl, rfl, rfl, rfl, rfl⟩ rfl rfl rfl rfl rfl (by kernel_rfl) Try.func14 (by kernel_rfl)
    (of_decide_eq_true (by kernel_rfl)) (by unfold Func.isWrapper; first | (rw [if_pos (by decide +kernel)]; kernel_rfl) | (rw [if_neg (by decide +kernel)]; exact ⟨rfl, rfl⟩))
    (fun os started H enc _ => journalCrashes_lifted os started H enc)
#print axioms journalCrashes_holds
end Go.Proofs.Ytnfmcmjfpbmloaa
