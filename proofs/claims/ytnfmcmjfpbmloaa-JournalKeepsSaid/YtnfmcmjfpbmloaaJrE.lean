/-
  Append: the closures, and steps.
-/
import Derived.Test.YtnfmcmjfpbmloaaJrA
import Derived.Deep.RegionHeld3
import Derived.Laws.Concat
import Derived.Defers
import Derived.Recover
namespace Go.Proofs.Ytnfmcmjfpbmloaa
open Go.RowKit

/-- A journal in memory. -/
def jn (jb g : Nat) (m b e : Int) (br : Bool) : HP := bl jb 82 #[.pointer (some ⟨g, 0, none⟩), .int .i64 m, .int .i64 b, .int .i64 e, .bool br]

theorem at_number {w0 w : World} {L : List HP} (h : At w0 w L) (n : Int) (h0 : 0 ≤ n) (wd : Int) (hw : 0 ≤ wd) (hw8 : wd ≤ 8) :
    Calls Try.prog 64 #[.int .i64 n, .int .i64 wd] w fun e w' => e = .returned (.string (str (be wd.toNat n.toNat))) ∧ At w0 w' L := by
  obtain ⟨m, rfl⟩ := Int.eq_ofNat_of_zero_le h0
  obtain ⟨k, rfl⟩ := Int.eq_ofNat_of_zero_le hw
  refine (number_any m k (by omega) w).mono ?_
  rintro e w' ⟨rfl, hb⟩
  exact ⟨rfl, h.keep (Turns.below hb)⟩

section
variable {w0 w : World} {L : List HP} {g jb xj xr : Nat} {σ : DS} {m b e : Int} {br : Bool}

set_option maxRecDepth 100000 in
set_option maxHeartbeats 2000000 in
theorem ap1_any (s : ByteArray) (hs : s.size ≤ 16777216) (h : At w0 w L) (i0 i1 i2 i3 : Nat) (h0 : L[i0]? = some (bl xj 65 #[.pointer (some ⟨jb, 0, none⟩)])) (h1 : L[i1]? = some (bl xr 9 #[.string s])) (h2 : L[i2]? = some (jn jb g m b e br)) (h3 : L[i3]? = some (dk g σ)) (e0 : i0 ≠ i3) (e1 : i1 ≠ i3) (e2 : i2 ≠ i3) (hn : σ.n < 100000) :
    Calls Try.prog 63 #[.pointer (some ⟨xj, 0, none⟩), .pointer (some ⟨xr, 0, none⟩)] w fun r w' => r = .returned (.int .i64 (σ.writeE e (be 4 s.size ++ s.data.toList))) ∧ At w0 w' (L.set i3 (dk g (σ.write e (be 4 s.size ++ s.data.toList)))) := by
  have c0 := h.cell i0 h0 0 _ rfl
  have c1 := h.cell i1 h1 0 _ rfl
  have c2 := h.cell i2 h2 0 _ rfl
  have c3 := h.cell i2 h2 3 _ rfl
  obtain ⟨sz, hsz⟩ : ∃ sz : Int, (s.size : Int) = sz := ⟨_, rfl⟩
  have HA := Lib.hid h.drew
  have HI := Lib.hid (And.intro h0 (And.intro h1 (And.intro h2 h3)))
  have HN : Hid (∀ P, (L.set i3 P)[i0]? = some (bl xj 65 #[.pointer (some ⟨jb, 0, none⟩)]) ∧ (L.set i3 P)[i1]? = some (bl xr 9 #[.string s]) ∧ (L.set i3 P)[i2]? = some (jn jb g m b e br)) := fun P => ⟨(List.getElem?_set_ne (Ne.symm e0)).trans h0, (List.getElem?_set_ne (Ne.symm e1)).trans h1, (List.getElem?_set_ne (Ne.symm e2)).trans h2⟩
  clear h0 h1 h2 h3
  have HSZ := Lib.hid hsz
  have hsz0 : 0 ≤ sz := by omega
  clear h
  obtain ⟨s1, hs1⟩ : ∃ s1, str (be 4 s.size) = s1 := ⟨_, rfl⟩
  have HS1 := Lib.hid hs1
  have hs1s : s1.size + s.size ≤ 33554432 := by rw [← hs1, str_size, length_be]; omega
  clear hs1
  have hcat : ∀ w : World, (Op.stringOp .add s1 s).run Try.prog w = .ok (.string (s1 ++ s)) w := fun w => run_string_add_sum (P := Try.prog) (w := w) s1 s (by omega)
  go_enter Try.func63, Try.ntmps63
  go_wp2_with fail
  go_region_held3 (fun w' => w'.cell? ⟨xj, 0, none⟩ = some (.pointer (some ⟨jb, 0, none⟩)) ∧ w'.cell? ⟨jb, 0, none⟩ = some (.pointer (some ⟨g, 0, none⟩)) ∧ w'.cell? ⟨jb, 3, none⟩ = some (.int .i64 e) ∧ w'.cell? ⟨xr, 0, none⟩ = some (.string s))
    (first | exact ⟨HA.out.cell i0 HI.out.1 0 _ rfl, HA.out.cell i2 HI.out.2.2.1 0 _ rfl, HA.out.cell i2 HI.out.2.2.1 3 _ rfl, HA.out.cell i1 HI.out.2.1 0 _ rfl⟩ | exact ⟨HA.out.cell i0 (HN.out _).1 0 _ rfl, HA.out.cell i2 (HN.out _).2.2 0 _ rfl, HA.out.cell i2 (HN.out _).2.2 3 _ rfl, HA.out.cell i1 (HN.out _).2.1 0 _ rfl⟩)
    (first
      | (go_at_call 64; refine (at_number HA.out sz hsz0 4 (by decide) (by decide)).mono ?_; rintro r w1 ⟨rfl, h1⟩; have HA := Lib.hid h1; clear h1; rw [show str (be (4 : Int).toNat sz.toNat) = s1 by rw [← HS1.out, ← HSZ.out]; rfl])
      | (go_at_call 34; refine (at_write HA.out i3 HI.out.2.2.2 hn _ _).mono ?_; rintro r w2 ⟨rfl, h2⟩; have HA := Lib.hid h2; clear h2))
  go_wp2_with fail
  go_ret
  have hd : s1.data.toList ++ s.data.toList = be 4 s.size ++ s.data.toList := by rw [← HS1.out, str_data]
  have h2 := HA.out
  rw [app_data, hd] at h2
  exact ⟨by rw [hd]; rfl, h2⟩

set_option maxRecDepth 100000 in
set_option maxHeartbeats 2000000 in
theorem ap2_any (n : Int) (hn0 : 64 ≤ n) (hn1 : n ≤ 100000000) (h : At w0 w L) (i0 i1 i2 i3 : Nat) (h0 : L[i0]? = some (bl xj 65 #[.pointer (some ⟨jb, 0, none⟩)])) (h1 : L[i1]? = some (bl xr 3 #[.int .i64 n])) (h2 : L[i2]? = some (jn jb g m b e br)) (h3 : L[i3]? = some (dk g σ)) (e0 : i0 ≠ i3) (e1 : i1 ≠ i3) (e2 : i2 ≠ i3) (hn : σ.n < 100000) :
    Calls Try.prog 65 #[.pointer (some ⟨xj, 0, none⟩), .pointer (some ⟨xr, 0, none⟩)] w fun r w' => r = .returned (.int .i64 (σ.writeE 0 (be 8 (n - 64).toNat))) ∧ At w0 w' (L.set i3 (dk g (σ.write 0 (be 8 (n - 64).toNat)))) := by
  have c0 := h.cell i0 h0 0 _ rfl
  have c1 := h.cell i1 h1 0 _ rfl
  have c2 := h.cell i2 h2 0 _ rfl
  have HA := Lib.hid h.drew
  have HI := Lib.hid (And.intro h0 (And.intro h1 (And.intro h2 h3)))
  have HN : Hid (∀ P, (L.set i3 P)[i0]? = some (bl xj 65 #[.pointer (some ⟨jb, 0, none⟩)]) ∧ (L.set i3 P)[i1]? = some (bl xr 3 #[.int .i64 n]) ∧ (L.set i3 P)[i2]? = some (jn jb g m b e br)) := fun P => ⟨(List.getElem?_set_ne (Ne.symm e0)).trans h0, (List.getElem?_set_ne (Ne.symm e1)).trans h1, (List.getElem?_set_ne (Ne.symm e2)).trans h2⟩
  clear h0 h1 h2 h3
  clear h
  obtain ⟨d, hd⟩ : ∃ d : Int, n - 64 = d := ⟨_, rfl⟩
  have hd0 : 0 ≤ d := by omega
  have q1 : IntKind.i64.wrap (n - 64) = d := by rw [IntWalk.i64_in _ (by omega), hd]
  have HD := Lib.hid hd
  clear hd
  obtain ⟨s1, hs1⟩ : ∃ s1, str (be (8 : Int).toNat d.toNat) = s1 := ⟨_, rfl⟩
  have HS1 := Lib.hid hs1
  clear hs1
  go_enter Try.func65, Try.ntmps65
  go_wp2_with fail
  go_region_held3 (fun w' => w'.cell? ⟨xj, 0, none⟩ = some (.pointer (some ⟨jb, 0, none⟩)) ∧ w'.cell? ⟨jb, 0, none⟩ = some (.pointer (some ⟨g, 0, none⟩)) ∧ w'.cell? ⟨xr, 0, none⟩ = some (.int .i64 n))
    (first | exact ⟨HA.out.cell i0 HI.out.1 0 _ rfl, HA.out.cell i2 HI.out.2.2.1 0 _ rfl, HA.out.cell i1 HI.out.2.1 0 _ rfl⟩ | exact ⟨HA.out.cell i0 (HN.out _).1 0 _ rfl, HA.out.cell i2 (HN.out _).2.2 0 _ rfl, HA.out.cell i1 (HN.out _).2.1 0 _ rfl⟩)
    (first
      | (go_at_call 64; refine (at_number HA.out d hd0 8 (by decide) (by decide)).mono ?_; rintro r w1 ⟨rfl, h1⟩; have HA := Lib.hid h1; clear h1; rw [HS1.out])
      | (go_at_call 34; refine (at_write HA.out i3 HI.out.2.2.2 hn _ _).mono ?_; rintro r w2 ⟨rfl, h2⟩; have HA := Lib.hid h2; clear h2))
  go_wp2_with fail
  go_ret
  have hd : s1.data.toList = be 8 (n - 64).toNat := by rw [← HS1.out, str_data, HD.out]; rfl
  have h2 := HA.out
  rw [hd] at h2
  exact ⟨by rw [hd]; rfl, h2⟩
end
end Go.Proofs.Ytnfmcmjfpbmloaa
