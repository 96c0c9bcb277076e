/-
  A thing is brought to the front; the head of a list in memory.
-/
import Derived.Test.YtnfmcmjfpbmloaaJrM
namespace Go.Proofs.Ytnfmcmjfpbmloaa
open Go.RowKit

theorem perm_front {α : Type} {P : α} : ∀ {L : List α} (i : Nat), L[i]? = some P → L.Perm (P :: L.eraseIdx i)
  | [], i, h => by simp at h
  | a :: L, 0, h => by
    have : a = P := by simpa using h
    subst this
    exact List.Perm.refl _
  | a :: L, i + 1, h => by
    have ih := perm_front (L := L) i (by simpa using h)
    exact (List.Perm.cons a ih).trans (List.Perm.swap _ _ _)
theorem At.front {w0 w : World} {L : List HP} {P : HP} (h : At w0 w L) (i : Nat) (hi : L[i]? = some P) : At w0 w (P :: L.eraseIdx i) := h.perm (perm_front i hi)

theorem Reads.head {w : World} {A : Option Addr} {n c : Nat} {l : List (List UInt8)} (h : Reads w 1 (.slice A n c) n (strs l)) (k : Nat) (hk : k ≤ n) (hl : l.length = n) : Reads w 1 (.slice A k c) (l.take k).length (strs (l.take k)) := by
  obtain ⟨A', c', h1, h2, h3⟩ := h
  injection h1 with h1 _ h4
  subst h1 h4
  have hlen : (l.take k).length = k := by rw [List.length_take]; omega
  rw [hlen]
  refine ⟨A, c, rfl, by rw [length_strs, hlen]; omega, fun hk0 => ?_⟩
  obtain ⟨ad, ha, hc⟩ := h3 (by omega)
  refine ⟨ad, ha, fun j u hu => hc j u ?_⟩
  have e : strs (l.take k) = (strs l).take k := by unfold strs; rw [List.map_take]
  rw [e, List.getElem?_take] at hu
  split at hu
  · exact hu
  · cases hu
theorem At.cap {w0 w : World} {L : List HP} {A : Option Addr} {n c : Nat} {l : List (List UInt8)} (h : At w0 w L) (i : Nat) (hi : L[i]? = some (sl (.slice A n c) l)) : n ≤ c := by
  obtain ⟨S, h1, _⟩ := h.get i hi
  obtain ⟨A', c', h2, h3⟩ := own_slice h1
  injection h2 with _ h4 h5
  omega
end Go.Proofs.Ytnfmcmjfpbmloaa
