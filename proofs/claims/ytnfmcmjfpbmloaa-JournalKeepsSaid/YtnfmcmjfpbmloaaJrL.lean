/-
  The chapter's examples (sanity), and words for the laws.
-/
import Derived.Test.YtnfmcmjfpbmloaaJrK
namespace Go.Proofs.Ytnfmcmjfpbmloaa
open Go.RowKit

theorem sync_facts (σ : DS) : σ.sync.lim = σ.lim ∧ σ.sync.n ≤ σ.n + 1 := ⟨DS.sync_lim σ, DS.sync_n σ⟩
theorem two_off {σ : DS} (h : σ.off = true) (o1 : Nat) (s1 : List UInt8) (o2 : Int) (s2 : List UInt8) (hb : o1 + s1.length ≤ 16777216) : σ.two o1 s1 o2 s2 = (σ, 70) := by
  unfold DS.two
  rcases step_cases σ o1 s1 hb with ⟨_, h1⟩ | ⟨h1, _⟩
  · rw [h1, if_pos (by simp)]
  · rw [h] at h1; cases h1

section
variable {w0 w : World} {L : List HP} {g jb : Nat} {σ : DS} {l : List (List UInt8)} {e : Nat}

/-- Open, the power on, over contents that hold records. -/
theorem at_openJ (h : At w0 w (dk g σ :: L)) (hn : σ.n < 100000) (ho : σ.off = false) (hH : Holds σ.now l e) :
    Calls Try.prog 41 #[.pointer (some ⟨g, 0, none⟩)] w fun r w' => ∃ jb A c σ', r = .returned (.tuple #[.pointer (some ⟨jb, 0, none⟩), .slice A l.length c, .int .i64 0]) ∧ Hid (GJ σ' l e ∧ σ'.lim = σ.lim ∧ σ'.n ≤ σ.n + 1) ∧ Hid (At w0 w' (jn jb g l.length (bs l) e false :: dk g σ' :: sl (.slice A l.length c) l :: L)) := by
  refine (at_open h hn ho hH).mono ?_
  rintro r w' ⟨jb, v, rfl, hA⟩
  obtain ⟨S, hown, _⟩ := hA.get 1 rfl
  obtain ⟨A, c, rfl, _⟩ := own_slice hown
  exact ⟨jb, A, c, σ.sync, rfl, ⟨gj_sync hH ho, sync_facts σ⟩, hA.perm (.cons _ (.swap _ _ _))⟩

/-- Append, the power on. -/
theorem at_appendJ (h : At w0 w (jn jb g l.length (bs l) e false :: dk g σ :: L)) (hG : GJ σ l e) (hl : σ.lim = false) (s : ByteArray) (hn : σ.n < 50000) (hb : bs l + s.size + 272 ≤ 16777216) :
    Calls Try.prog 43 #[.pointer (some ⟨jb, 0, none⟩), .string s] w fun r w' => ∃ σ' e', r = .returned (.int .i64 0) ∧ Hid (GJ σ' (l ++ [s.data.toList]) e' ∧ σ'.lim = false ∧ σ'.n ≤ σ.n + 4) ∧ Hid (At w0 w' (jn jb g (l ++ [s.data.toList]).length (bs (l ++ [s.data.toList])) e' false :: dk g σ' :: L)) := by
  have hg := hG.holds.ge
  have hsz : s.data.toList.length = s.size := by rw [Array.length_toList]; rfl
  have hk := two_ok hG hl s.data.toList (by omega)
  have hlb := bs_len l
  have hn2 := two_n σ e (be 4 s.data.toList.length ++ s.data.toList) 0 (be 8 (e + 4 + s.data.toList.length - 64))
  have hl2 := two_lim σ e (be 4 s.data.toList.length ++ s.data.toList) 0 (be 8 (e + 4 + s.data.toList.length - 64))
  obtain ⟨⟨τd, τc⟩, hτ⟩ : ∃ τ, σ.two e (be 4 s.data.toList.length ++ s.data.toList) 0 (be 8 (e + 4 + s.data.toList.length - 64)) = τ := ⟨_, rfl⟩
  rw [hτ] at hk hn2 hl2
  refine (append_go h s hn (by omega) (by omega) (by omega) (by omega) (by omega) (by omega) (by omega) τd τc (by rw [← hτ, hsz, show ((e : Int) + 4 + (s.size : Int) - 64).toNat = e + 4 + s.size - 64 by omega])).mono ?_
  rintro r w' ⟨rfl, hA⟩
  obtain ⟨h1, h2⟩ := hk
  dsimp only at h1 h2 hA hn2 hl2
  subst h1
  refine ⟨τd, e + 4 + s.data.toList.length, rfl, ⟨h2, hl2.trans hl, hn2⟩, ?_⟩
  have e1 : ((l ++ [s.data.toList]).length : Int) = (l.length : Int) + 1 := by simp
  have e2 : (bs (l ++ [s.data.toList]) : Int) = (bs l : Int) + ((s.size : Int) + 16) := by rw [bs_append]; simp [bs, hsz]
  have e3 : ((e + 4 + s.data.toList.length : Nat) : Int) = (e : Int) + 4 + (s.size : Int) := by rw [hsz]; omega
  rw [e1, e2, e3]
  exact hA

/-- Append, the power off. -/
theorem at_appendN (h : At w0 w (jn jb g l.length (bs l) e false :: dk g σ :: L)) (hH : Holds σ.now l e) (ho : σ.off = true) (s : ByteArray) (hn : σ.n < 50000) (hb : bs l + s.size + 272 ≤ 16777216) :
    Calls Try.prog 43 #[.pointer (some ⟨jb, 0, none⟩), .string s] w fun r w' => r = .returned (.int .i64 70) ∧ At w0 w' (jn jb g l.length (bs l) e true :: dk g σ :: L) := by
  have hg := hH.ge
  have hsum := hH.sum
  have hsz : s.data.toList.length = s.size := by rw [Array.length_toList]; rfl
  have hlb := bs_len l
  refine (append_go h s hn (by omega) (by omega) (by omega) (by omega) (by omega) (by omega) (by omega) σ 70 (two_off ho e _ _ _ (by rw [List.length_append, length_be, hsz]; omega))).mono ?_
  rintro r w' ⟨rfl, hA⟩
  exact ⟨rfl, hA⟩
end

set_option maxRecDepth 100000 in
set_option maxHeartbeats 4000000 in
theorem sanity34_any (w : World) : Calls Try.prog 40 #[] w fun e w' => e = .returned (.bool true) ∧ Below w.heap.size w w' := by
  have HA := Lib.hid (At.start w)
  go_enter Try.func40, Try.ntmps40
  go_wp2_with fail
  refine (at_new HA.out).mono ?_
  rintro r w1 ⟨rfl, h⟩
  have HA1 := Lib.hid h
  clear h HA
  generalize w.heap.size = gd at *
  go_wp2_with fail
  refine (at_openJ HA1.out (by decide) rfl holds_nil).mono ?_
  rintro r w2 ⟨jb, A, c, σ1, rfl, HG1, HA2⟩
  clear HA1
  go_wp2_with fail
  refine (at_appendJ HA2.out HG1.out.1 (HG1.out.2.1) ⟨#[97]⟩ (by have := HG1.out.2.2; have : DS.new.n = 0 := rfl; omega) (by decide)).mono ?_
  rintro r w3 ⟨σ2, e2, rfl, HG2, HA3⟩
  go_wp2_with fail
  refine (at_appendJ HA3.out HG2.out.1 (HG2.out.2.1) ⟨#[]⟩ (by have := HG1.out.2.2; have := HG2.out.2.2; have : DS.new.n = 0 := rfl; omega) (by decide)).mono ?_
  rintro r w4 ⟨σ3, e3, rfl, HG3, HA4⟩
  have hn3 : σ3.n ≤ 9 := by have := HG1.out.2.2; have := HG2.out.2.2; have := HG3.out.2.2; have : DS.new.n = 0 := rfl; omega
  clear HA2 HA3 HG1 HG2
  go_wp2_with fail
  refine (many_any HA4.out 0 rfl).mono ?_
  rintro r w4' ⟨rfl, rfl⟩
  go_wp2_with fail
  refine (at_crash HA4.out 1 rfl _ [] (reads_nil _)).mono ?_
  rintro r w5 ⟨rfl, h5⟩
  have HA5 := Lib.hid h5
  clear h5 HA4
  generalize w4.heap.size = gc at *
  go_wp2_with fail
  refine (at_openJ HA5.out (show (0 : Nat) < _ by decide) rfl (HG3.out.1.crash_holds [])).mono ?_
  rintro r w6 ⟨jb2, A2, c2, σ4, rfl, HG4, HA6⟩
  clear HA5
  go_wp2_with fail
  refine (at_fail HA6.out 4 rfl 0 (by decide)).mono ?_
  rintro r w7 ⟨rfl, h7⟩
  have HA7 := Lib.hid (h7.perm (List.perm_append_comm (l₁ := [jn jb2 gc _ _ _ false, dk gc σ4, sl _ _]) (l₂ := [jn jb gd _ _ _ false, dk gd (σ3.fail 0), sl _ _])))
  clear h7 HA6
  go_wp2_with fail
  refine (at_appendN HA7.out HG3.out.1.holds rfl ⟨#[98]⟩ (show σ3.n < 50000 by omega) (by decide)).mono ?_
  rintro r w8 ⟨rfl, h8⟩
  have HA8 := Lib.hid h8
  clear h8 HA7
  go_wp2_with fail
  refine (append_broken HA8.out ⟨#[99]⟩).mono ?_
  rintro r w9 ⟨rfl, h9⟩
  have HA9 := Lib.hid h9
  clear h9 HA8
  go_wp2_with fail
  refine (at_crash HA9.out 1 rfl _ [] (reads_nil _)).mono ?_
  rintro r w10 ⟨rfl, h10⟩
  have HA10 := Lib.hid h10
  clear h10 HA9
  generalize w9.heap.size = gf at *
  go_wp2_with fail
  refine (at_openJ HA10.out (show (0 : Nat) < _ by decide) rfl (show Holds ((σ3.fail 0).crash []).now _ _ from HG3.out.1.crash_holds [])).mono ?_
  rintro r w11 ⟨jb3, A3, c3, σ5, rfl, HG5, HA11⟩
  clear HA10
  go_wp2_with fail
  refine (at_same (HA11.out.alloc _) ((HA11.out.alloc _).list 2 rfl) (show Reads _ 1 _ ([[97], []] : List (List UInt8)).length (strs [[97], []]) from reads_new w11 9 [.string ⟨#[97]⟩, .string ⟨#[]⟩] 2 1 2 rfl) (by decide) (by decide)).mono ?_
  rintro r w12 ⟨rfl, h12⟩
  rw [show decide (([] ++ [(⟨#[97]⟩ : ByteArray).data.toList] ++ [(⟨#[]⟩ : ByteArray).data.toList]) = ([[97], []] : List (List UInt8))) = true from rfl]
  have HA12 := Lib.hid h12
  clear h12 HA11
  go_wp2_with fail
  refine (at_same (HA12.out.alloc _) ((HA12.out.alloc _).list 8 rfl) (show Reads _ 1 _ ([[97], []] : List (List UInt8)).length (strs [[97], []]) from reads_new w12 9 [.string ⟨#[97]⟩, .string ⟨#[]⟩] 2 1 2 rfl) (by decide) (by decide)).mono ?_
  rintro r w13 ⟨rfl, h13⟩
  rw [show decide (([] ++ [(⟨#[97]⟩ : ByteArray).data.toList] ++ [(⟨#[]⟩ : ByteArray).data.toList]) = ([[97], []] : List (List UInt8))) = true from rfl]
  have HA13 := Lib.hid h13
  clear h13 HA12
  go_wp2_with fail
  go_ret
  exact ⟨rfl, HA13.out.below⟩
end Go.Proofs.Ytnfmcmjfpbmloaa
