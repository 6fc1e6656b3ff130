/- SchedRemoves: what is left and wanted. -/
import Derived.Test.YtkfkacdiekpkfaaW
namespace Go.Proofs.Ytkfkacdiekpkfaa
open Go.RowKit
def fid (k : Nat) : Int × Int := ((k : Int), 1)
theorem idsN_map : ∀ n, idsN n = (List.range n).map fid
  | 0 => rfl
  | n + 1 => by rw [idsN, idsN_map n, List.range_succ, List.map_append]; rfl
def wantN (n c g k : Nat) : List Nat := ((List.range k).map fun i => (c + i) % n).filter fun x => x != g
theorem wantN_succ (n c g k : Nat) : wantN n c g (k + 1) = wantN n c g k ++ (if (c + k) % n = g then [] else [(c + k) % n]) := by
  unfold wantN
  rw [List.range_succ, List.map_append, List.filter_append]
  congr 1
  by_cases h : (c + k) % n = g
  · simp [h]
  · simp [h]
theorem wantN_len (n c g : Nat) : ∀ k, (wantN n c g k).length ≤ k
  | 0 => Nat.le_refl _
  | k + 1 => by
    rw [wantN_succ, List.length_append]
    have := wantN_len n c g k
    split <;> simp <;> omega
def rmOk (n : Nat) : Bool := (List.range n).all fun c => (List.range n).all fun g => rotL ((List.range n).eraseIdx g) (rmc (n - 1) g c) == wantN n c g n
theorem rm_all : ((List.range 31).all rmOk) = true := by decide +kernel
end Go.Proofs.Ytkfkacdiekpkfaa
