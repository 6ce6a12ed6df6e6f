/- Lines of a text (plain). -/
import Derived.Lib.Strings
import Derived.Test.YtbibeionenjmfaaGreatDoorZShelf
set_option linter.unusedSimpArgs false
set_option linter.unusedVariables false
namespace Go.Proofs.YtbibeionenjmfaaGreatDoor
open Go.RowKit
def Et (s:List UInt8):List UInt8:=if s.getLast?=some 10 then s.dropLast else s
def C5 (s:List UInt8):List (List UInt8):=splitAt 10 (Et s)
theorem X7 (s:List UInt8):Lib.trimSuffix s [10]=Et s:=by
 unfold Lib.trimSuffix Et Lib.hasSuffix
 rcases List.eq_nil_or_concat s with rfl | ⟨l,x,rfl⟩
 ·rfl
 ·rw [List.concat_eq_append,List.getLast?_concat,List.dropLast_concat]
  by_cases h:x=10
  ·subst h
   have: [10].isSuffixOf (l++ [(10:UInt8)])=true:=by simp
   rw [if_pos this,if_pos rfl]
   simp
  ·have: [10].isSuffixOf (l++ [x])=false:=by
    rw [Bool.eq_false_iff]
    intro h2
    rw [List.isSuffixOf_iff_suffix] at h2
    obtain⟨t,ht⟩:=h2
    have:=List.append_inj_right' ht rfl
    simp at this
    exact h this.symm
   rw [this]
   simp [h]
theorem Uh (c:UInt8):∀ (n:Nat) (l:List UInt8),l.length≤n→∀ w∈splitAt c l,w.length≤l.length
 | 0,l,h,w,hw=> by
   obtain rfl:=List.length_eq_zero_iff.1 (Nat.le_zero.1 h)
   rw [Ex (by simp)] at hw
   rw [List.mem_singleton.1 hw];exact Nat.le_refl _
 | n+1,l,h,w,hw=> by
   rcases Ge c l with hc | ⟨A,B,rfl,hA⟩
   ·rw [Ex hc] at hw
    rw [List.mem_singleton.1 hw];exact Nat.le_refl _
   ·rw [Fq hA] at hw
    rw [List.length_append,List.length_cons] at h ⊢
    rcases List.mem_cons.1 hw with e | e
    ·rw [e];omega
    ·have:=Uh c n B (by omega) w e
     omega
end Go.Proofs.YtbibeionenjmfaaGreatDoor
