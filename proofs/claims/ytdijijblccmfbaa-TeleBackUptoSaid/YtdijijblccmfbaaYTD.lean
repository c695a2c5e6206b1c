/- Cleaned terms, in plain Lean. No condition. -/
import Derived.Test.YtdijijblccmfbaaYTC
set_option linter.unusedSimpArgs false
set_option linter.unusedVariables false
namespace Go.Proofs.Ytdijijblccmfbaa
open Go

theorem cleanTs_eq (l : List Trm) : cleanTs l = l.map cleanT := by
  induction l with
  | nil => rw [cleanTs]; rfl
  | cons k t ih => rw [cleanTs,ih]; rfl
theorem clean_eq (f n : Int) (h : Bool) (nm : List Nat) (ls : List Lev) (ks : List Trm) : cleanT (.mk f n h nm ls ks) = .mk f (if f = 1 ∨ f = 11 then n else 0) (if f = 3 ∨ f = 4 ∨ f = 5 then h else false) (if f = 10 then nm else []) (if f = 2 ∨ f = 10 then ls else []) (ks.map cleanT) := by rw [cleanT,cleanTs_eq]
theorem formed_leaf : ∀ t : Trm,formedT t = true → leafT t = true := by
  refine Trm.ind ?_
  intro t ih h
  rw [formedT_eq,Bool.and_eq_true,List.all_eq_true] at h
  obtain ⟨f,n,hd,nm,ls,ks⟩ := t
  refine (leaf_eq ..).2 ⟨fun hf => ?_,fun k hk => ih k hk (h.2 k hk)⟩
  have := part_len h.1
  replace this : kidsN f = (ks.length : Int) := this
  rw [hf,show kidsN 1 = 0 from rfl] at this
  exact List.length_eq_zero_iff.1 (by omega)
end Go.Proofs.Ytdijijblccmfbaa
