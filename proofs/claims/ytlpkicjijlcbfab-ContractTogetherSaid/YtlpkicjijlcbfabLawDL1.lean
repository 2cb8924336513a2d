/- Chapter 08: the walk of ContractFewest. -/
import Derived.Test.YtlpkicjijlcbfabBaseQO
set_option linter.unusedVariables false
namespace Go.Dx
open Go.RowKit
theorem trC_len {t : Ta} {l : List Sy} (ht : validE t = 0) (hg : goodS l = true) (he : trE t l = 0) : ((trC t l).length : Int) = numV t l := by
  unfold trC
  rw [if_pos he]
  exact path_cost ht hg (trE_ok he).2
theorem numV_bd {t : Ta} {l : List Sy} (ht : validE t = 0) (h : l.length ≤ 2048) : numV t l ≤ 1000000 := by
  have hl := numT_len t l
  have hb := bd_num t l ht h
  obtain ⟨r, hr⟩ : ∃ r, (numT t l)[0]? = some r := ⟨_, List.getElem?_eq_getElem (by omega)⟩
  have h8 := sufT_rows t l l.length r (List.mem_of_getElem? hr)
  obtain ⟨v, hv⟩ : ∃ v, r[0]? = some v := ⟨_, List.getElem?_eq_getElem (by omega)⟩
  have e : numV t l = v := by
    have e1 : (numT t l).getD 0 [] = r := by rw [List.getD_eq_getElem?_getD, hr]; rfl
    show ((numT t l).getD 0 []).getD 0 0 = v
    rw [e1, List.getD_eq_getElem?_getD, hv]
    rfl
  rw [e]
  exact (hb r (List.mem_of_getElem? hr) v (List.mem_of_getElem? hv)).2
theorem trC_few {t : Ta} {l : List Sy} (ht : validE t = 0) (hg : goodS l = true) (h : l.length ≤ 2048) (he : trE t l = 0) : (trC t l).length ≤ 1000000 := by
  have h1 := trC_len ht hg he
  have h2 := numV_bd (t := t) (l := l) ht h
  omega
theorem trA_bd {t : Ta} {l : List Sy} (ht : validE t = 0) (h : l.length ≤ 2048) (he : trE t l = 0) : BdN (trA t l) 1000000 := by
  unfold trA
  rw [if_pos he]
  exact bd_num t l ht h
theorem trCh {t : Ta} {l : List Sy} (he : trE t l = 0) : chE t l (trC t l) (trK t l) (trA t l) = 0 := by
  unfold trC trK trA
  rw [if_pos he, if_pos he, if_pos he]
  exact chE_path he
end Go.Dx
namespace Go.Proofs.Ytlpkicjijlcbfab
open Go.RowKit Go.Dx Go.Al
end Go.Proofs.Ytlpkicjijlcbfab
