/- The reference's words; lists of texts compared; few texts. -/
import Derived.Test.YtgeedjlbajmdkaaGreatDoorWords
set_option linter.unusedSimpArgs false
set_option linter.unusedVariables false
namespace Go.Proofs.YtgeedjlbajmdkaaGreatDoor
open Go.RowKit

def bytesOf (s : ByteArray) : List UInt8 := s.data.toList
theorem bytes_get {s : ByteArray} {k : Nat} (h : k < s.size) : (bytesOf s)[k]? = some s[k] := by
  have h2 : k < s.data.size := h
  show s.data.toList[k]? = _
  rw [Array.getElem?_toList, Array.getElem?_eq_getElem h2]; rfl
theorem bytes_take_succ {s : ByteArray} {k : Nat} (h : k < s.size) : (bytesOf s).take (k + 1) = (bytesOf s).take k ++ [s[k]] := by
  have h2 : k < (bytesOf s).length := by unfold bytesOf; rw [tl_len]; exact h
  rw [List.take_succ_eq_append_getElem h2]
  congr 2
theorem extract_one {s : ByteArray} {k : Nat} (h : k < s.size) : s.extract k (k + 1) = tx [s[k]] := by
  have h2 : k < s.data.toList.length := by rw [tl_len]; exact h
  have e : (s.extract k (k + 1)).data.toList = [s[k]] := by
    rw [Lib.extract_data, List.drop_eq_getElem_cons h2, Nat.add_sub_cancel_left]
    rfl
  rw [← tx_of (s.extract k (k + 1)), e]
theorem tx_app (a b : List UInt8) : tx a ++ tx b = tx (a ++ b) := by
  have e : (tx a ++ tx b).data.toList = a ++ b := by
    have h : (tx a ++ tx b).data = (tx a).data ++ (tx b).data := ByteArray.data_append
    rw [h, Array.toList_append, tx_list, tx_list]
  rw [← tx_of (tx a ++ tx b), e]
theorem tx_snoc {s : ByteArray} {wd : List UInt8} {k : Nat} (h : k < s.size) : tx wd ++ s.extract k (k + 1) = tx (wd ++ [s[k]]) := by
  rw [extract_one h, tx_app]
set_option maxRecDepth 100000 in
set_option maxHeartbeats 1000000 in
theorem RefWords_any (s : ByteArray) (w : World) (hs : s.size ≤ 1000000) :
    Calls Tryz.prog 62 #[.string s] w fun e w' => ∃ v, e = .returned v ∧ Own 1 encS 9 w' w.heap.size v (wordsB s) ∧ Below w.heap.size w w' := by
  obtain ⟨ip, hpi, hpz0, hpz1, hpz2⟩ := info_parts infoStr
  go_enter Tryz.func62, Tryz.ntmps62
  go_wp2
  go_loopw [3, 4, 5] (fun v t i wr => ∃ k : Nat, ∃ ws wd, k ≤ s.size + 1 ∧ i = .int .i64 k ∧ t = .string (tx wd) ∧ Hid (k ≤ s.size → ((bytesOf s).take k).foldl wstep ([], []) = (ws, wd)) ∧ Hid (k = s.size + 1 → ws = wordsL (bytesOf s)) ∧ ws.length + wd.length ≤ k ∧ Own 1 encS 9 wr w.heap.size v (ws.map tx) ∧ Below w.heap.size w wr) (fun _ _ i _ => s.size + 1 - (intOf i).toNat)
  case atStart => exact ⟨0, [], [], by omega, by go_num, rfl, fun _ => rfl, fun h => by omega, by simp, Own.nil, Below.refl _ _⟩
  case round =>
    obtain ⟨k, ws, wd, hk, rfl, rfl, H1, H2, hsz, hown, hbl⟩ := hrel
    have hts : (tx wd).size ≤ 1000001 := by rw [tx_size]; omega
    by_cases hle : k ≤ s.size
    · have g0 : decide (k ≤ s.size) = true := by simpa using hle
      by_cases hlt : k < s.size
      · have g1 : decide (k < s.size) = true := by simpa using hlt
        have HB := hide (bytes_take_succ hlt)
        have f1 : (0 : Int) ≤ (k : Int) ∧ (k : Int) < (s.size : Int) ∧ (k : Int) + 1 ≤ (s.size : Int) := by omega
        obtain ⟨f1, f2, f3⟩ := f1
        by_cases hc : s[k] = 32
        · have hn2 : ((s[k].toNat : Int) != 32) = false := by rw [hc]; decide
          have HE : Hid (((bytesOf s).take (k + 1)).foldl wstep ([], []) = (wend (ws, wd), [])) := by
            show _ = _
            rw [HB.out, List.foldl_append, H1.out hle, hc]; rfl
          clear HB hc H1 H2
          by_cases hwd : wd = []
          ·
            subst hwd
            have HT : Hid (tx ([] : List UInt8) = ⟨#[]⟩) := rfl
            rw [HT.out]
            go_wp2
            go_roundw
            case rel => exact ⟨k + 1, ws, [], by omega, by go_num, rfl, fun _ => HE.out, fun h => by omega, by simp at hsz ⊢; omega, hown, hbl⟩
            case measure => (simp [intOf]; try omega)
          ·
            have hx : (!(tx wd).toList.isEmpty) = true := by rw [tl, tx_list]; cases wd with | nil => exact absurd rfl hwd | cons a t => rfl
            have HE2 : Hid (wend (ws, wd) = ws ++ [wd]) := by show _ = _; unfold wend; cases wd with | nil => exact absurd rfl hwd | cons a t => rfl
            have hwl : 1 ≤ wd.length := List.length_pos_iff.2 hwd
            have HX := hide (show (ws ++ [wd]).map tx = ws.map tx ++ [tx wd] by simp)
            have hlm : (ws.map tx).length ≤ 1000001 := by rw [List.length_map]; omega
            clear hwd
            generalize tx wd = x at *
            generalize ws.map tx = wt at *
            go_wp2_with (at_builtin; refine wpList_append_one encS_len _ _ 42 ip _ rfl rfl Tryz.underlying42 hpi hpz0 hpz1 hpz2 rfl (by decide) (by decide) (hown.alloc _) (hbl.alloc hbl.size _) (by have := hbl.size; simp; omega) (by omega) rfl x ⟨wr.heap.size, 0, none⟩ 1 rfl (news_cells wr _ rfl) (one_str x) ?_; intro v' w2 ho hb g1' g2'; clear g1' g2')
            go_wp2
            go_roundw
            case rel => exact ⟨k + 1, ws ++ [wd], [], by omega, by go_num, rfl, fun _ => by rw [← HE2.out]; exact HE.out, fun h => by omega, by simp; omega, by rw [HX.out]; exact ho, hb⟩
            case measure => (simp [intOf]; try omega)
        · have hn2 : ((s[k].toNat : Int) != 32) = true := by
            rw [bne_iff_ne]; intro e; exact hc (UInt8.toNat_inj.1 (by show s[k].toNat = 32; omega))
          have HE : Hid (((bytesOf s).take (k + 1)).foldl wstep ([], []) = (ws, wd ++ [s[k]])) := by
            show _ = _
            rw [HB.out, List.foldl_append, H1.out hle]
            show wstep (ws, wd) s[k] = _
            unfold wstep; rw [if_neg hc]
          have HX : Hid (tx wd ++ s.extract k (k + 1) = tx (wd ++ [s[k]])) := tx_snoc hlt
          clear HB hc H1 H2
          go_wp2
          rw [HX.out]
          go_roundw
          case rel => exact ⟨k + 1, ws, _, by omega, by go_num, rfl, fun _ => HE.out, fun h => by omega, by simp; omega, hown, hbl⟩
          case measure => simp [intOf]; omega
      · obtain rfl : k = s.size := by omega
        have g1 : decide (s.size < s.size) = false := by simp
        have HE : Hid (wend (ws, wd) = wordsL (bytesOf s)) := by
          show _ = _
          rw [← H1.out hle, List.take_of_length_le (by unfold bytesOf; rw [tl_len]; omega)]
          exact words_eq _
        clear H1 H2
        by_cases hwd : wd = []
        ·
          subst hwd
          have HT : Hid (tx ([] : List UInt8) = ⟨#[]⟩) := rfl
          rw [HT.out]
          go_wp2
          go_roundw
          case rel => exact ⟨s.size + 1, ws, [], by omega, by go_num, rfl, fun h => by omega, fun _ => HE.out, by simp at hsz ⊢; omega, hown, hbl⟩
          case measure => (simp [intOf]; try omega)
        ·
          have hx : (!(tx wd).toList.isEmpty) = true := by rw [tl, tx_list]; cases wd with | nil => exact absurd rfl hwd | cons a t => rfl
          have HE2 : Hid (wend (ws, wd) = ws ++ [wd]) := by show _ = _; unfold wend; cases wd with | nil => exact absurd rfl hwd | cons a t => rfl
          have hwl : 1 ≤ wd.length := List.length_pos_iff.2 hwd
          have HX := hide (show (ws ++ [wd]).map tx = ws.map tx ++ [tx wd] by simp)
          have hlm : (ws.map tx).length ≤ 1000001 := by rw [List.length_map]; omega
          clear hwd
          generalize tx wd = x at *
          generalize ws.map tx = wt at *
          go_wp2_with (at_builtin; refine wpList_append_one encS_len _ _ 42 ip _ rfl rfl Tryz.underlying42 hpi hpz0 hpz1 hpz2 rfl (by decide) (by decide) (hown.alloc _) (hbl.alloc hbl.size _) (by have := hbl.size; simp; omega) (by omega) rfl x ⟨wr.heap.size, 0, none⟩ 1 rfl (news_cells wr _ rfl) (one_str x) ?_; intro v' w2 ho hb g1' g2'; clear g1' g2')
          go_wp2
          go_roundw
          case rel => exact ⟨s.size + 1, ws ++ [wd], [], by omega, by go_num, rfl, fun h => by omega, fun _ => by rw [← HE2.out]; exact HE.out, by simp; omega, by rw [HX.out]; exact ho, hb⟩
          case measure => (simp [intOf]; try omega)
    · obtain rfl : k = s.size + 1 := by omega
      have g0 : decide (s.size + 1 ≤ s.size) = false := by simp
      have HE := hide (H2.out rfl)
      clear H1 H2
      go_wp2
      go_ret
      exact ⟨_, rfl, by rw [wordsB_eq, ← show ws = wordsL s.data.toList from HE.out]; exact hown, hbl⟩
end Go.Proofs.YtgeedjlbajmdkaaGreatDoor
