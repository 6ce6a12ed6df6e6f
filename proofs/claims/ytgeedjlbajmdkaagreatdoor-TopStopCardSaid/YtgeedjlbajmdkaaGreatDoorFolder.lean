/- folder: a run over pairs: its state; Out, Save. -/
import Derived.Test.YtgeedjlbajmdkaaGreatDoorPair4
import Derived.Test.YtgeedjlbajmdkaaGreatDoorPair5
import Derived.Test.YtgeedjlbajmdkaaGreatDoorFold
import Derived.Test.YtgeedjlbajmdkaaGreatDoorRows
import Derived.BigQuiet
import Derived.Test.YtgeedjlbajmdkaaGreatDoorRefFold
import Derived.Test.YtgeedjlbajmdkaaGreatDoorSort
set_option linter.unusedSimpArgs false
set_option linter.unusedVariables false
/- What a run saves: its number, its pairs (plain). -/
namespace Go.Proofs.YtgeedjlbajmdkaaGreatDoor
open Go.RowKit

def saveP (n : Nat) (out : List Pr) : List UInt8 := Lib.itoa (n : Int) ++ 10 :: textP out
theorem save_cut (n : Nat) (out : List Pr) : cutAt 10 (saveP n out) = (Lib.itoa (n : Int), textP out, true) := by
  unfold saveP
  exact cutAt_yes (itoa_not (by decide) (by decide))
theorem save_len (n : Nat) (out : List Pr) : (saveP n out).length = (Lib.itoa (n : Int)).length + 1 + (textP out).length := by
  unfold saveP; rw [List.length_append, List.length_cons]; omega
end Go.Proofs.YtgeedjlbajmdkaaGreatDoor
/- Pairs: the document's reading of a text. -/
namespace Go.Proofs.YtgeedjlbajmdkaaGreatDoor
open Go.RowKit

end Go.Proofs.YtgeedjlbajmdkaaGreatDoor
/- The reference SameNumbers at two equal lists. -/
namespace Go.Proofs.YtgeedjlbajmdkaaGreatDoor
open Go.RowKit
theorem infoInt : (Tryz.prog.info? 3).map (fun i => (i.zero, i.size, i.bytes)) = some (some (.int .i64 0), 1, 8) := by kernel_rfl
theorem encInt_len (x : Int) : (encInt x).length = 1 := rfl
end Go.Proofs.YtgeedjlbajmdkaaGreatDoor
/- PairSays: the law's walk. -/
namespace Go.Proofs.YtgeedjlbajmdkaaGreatDoor
open Go.RowKit

def faultS (S : List UInt8) : Int := if (parseP S).isSome = true then 0 else 4
def listS (S : List UInt8) : List Pr := (parseP S).getD []
theorem faultS_nn (S : List UInt8) : 0 ≤ faultS S := by unfold faultS; split <;> decide
theorem Parse_all (s : ByteArray) (w : World) (hg : GW w) (hs : s.size ≤ 10000000) :
    Calls Tryz.prog 75 #[.string s] w fun e w' => (∃ ao cap, e = .returned (.tuple #[.slice ao (listS s.data.toList).length cap, errV (faultS s.data.toList)]) ∧ Own 2 encP 101 w' w.heap.size (.slice ao (listS s.data.toList).length cap) (listS s.data.toList)) ∧ Below w.heap.size w w' := by
  refine (Parse_any s w hg hs).mono ?_
  rintro e w' ⟨⟨v, rfl, ho⟩, hb⟩
  obtain ⟨⟨ao, cap, rfl⟩, _⟩ := id ho
  refine ⟨⟨ao, cap, ?_, ho⟩, hb⟩
  unfold faultS listS
  cases parseP s.data.toList <;> rfl
theorem same_refl (f : Int) (w : World) (hf : 0 ≤ f) : Calls Tryz.prog 9 #[errV f, .int .i64 f] w fun e w' => e = .returned (.bool true) ∧ w = w' := by
  have := same_any f f w hf
  simpa using this
theorem listS_of {S : List UInt8} {l : List Pr} (h : parseP S = some l) : listS S = l ∧ faultS S = 0 := by
  unfold listS faultS; rw [h]; exact ⟨rfl, rfl⟩
theorem txt_one : (⟨#[49, 58, 97, 32, 45, 53, 10]⟩ : ByteArray).data.toList = textP [(⟨#[97]⟩, -5)] := by
  unfold textP lineP
  rw [List.flatMap_cons, List.flatMap_nil, List.append_nil]
  rw [show ((⟨#[97]⟩ : ByteArray), (-5 : Int)).1.size = 1 from rfl]
  rw [Lib.itoa_nonneg 1, Lib.decDigits_one (by decide), show ((⟨#[97]⟩ : ByteArray), (-5 : Int)).2 = -((5 : Nat) : Int) from rfl, Lib.itoa_neg 5 (by decide), Lib.decDigits_one (by decide)]
  rfl
theorem one_list : listS (⟨#[49, 58, 97, 32, 45, 53, 10]⟩ : ByteArray).data.toList = [(⟨#[97]⟩, -5)] ∧ faultS (⟨#[49, 58, 97, 32, 45, 53, 10]⟩ : ByteArray).data.toList = 0 := by
  rw [txt_one]
  exact listS_of (parse_text _ (by intro p hp; obtain rfl : p = _ := List.mem_singleton.1 hp; exact ⟨by decide, by decide, by decide⟩))
end Go.Proofs.YtgeedjlbajmdkaaGreatDoor
/- What was saved is read: the number, the pairs. -/
namespace Go.Proofs.YtgeedjlbajmdkaaGreatDoor
open Go.RowKit

theorem atoi_of (n : Nat) (hn : n ≤ 1000000) : atoiV (Lib.itoa (n : Int)) = n ∧ atoiOk (Lib.itoa (n : Int)) = true := by
  unfold atoiV atoiOk
  rw [atoi_itoa (by omega) (by omega)]
  exact ⟨rfl, rfl⟩
theorem Atoi_text (n : Nat) (w : World) (hg : GW w) (hn : n ≤ 1000000) :
    Calls Tryz.prog 74 #[.string (tx (Lib.itoa (n : Int)))] w fun e w' => e = .returned (.tuple #[.int .i64 (n : Int), .nilIface]) ∧ Below w.heap.size w w' := by
  have hl : (Lib.itoa (n : Int)).length ≤ 20 := itoa_len (by omega) (by omega)
  refine (Atoi_any _ w hg (by rw [tx_size]; omega)).mono ?_
  rintro e w' ⟨⟨ev, rfl, h1⟩, hb⟩
  rw [tx_list] at h1 ⊢
  rw [(atoi_of n hn).1]
  rw [(atoi_of n hn).2] at h1
  rcases h1 with ⟨_, rfl⟩ | ⟨h, _⟩
  · exact ⟨rfl, hb⟩
  · cases h
theorem Parse_text (O : List Pr) (w : World) (hg : GW w) (hok : okP O) (hs : (textP O).length ≤ 10000000) :
    Calls Tryz.prog 75 #[.string (tx (textP O))] w fun e w' => (∃ ao cap, e = .returned (.tuple #[.slice ao O.length cap, .nilIface]) ∧ Own 2 encP 101 w' w.heap.size (.slice ao O.length cap) O) ∧ Below w.heap.size w w' := by
  have h := Parse_all (tx (textP O)) w hg (by rw [tx_size]; exact hs)
  have hp := listS_of (parse_text O fun p hp => ⟨by have := (hok.2 p hp).1; omega, (hok.2 p hp).2⟩)
  rw [tx_list, hp.1, hp.2, errV_zero] at h
  exact h
end Go.Proofs.YtgeedjlbajmdkaaGreatDoor
namespace Go.Proofs.YtgeedjlbajmdkaaGreatDoor
open Go.RowKit

theorem two_bd (k a b : Int) (ha : -9223372036854775808 ≤ a ∧ a ≤ 9223372036854775807) (hb : -9223372036854775808 ≤ b ∧ b ≤ 9223372036854775807) : -9223372036854775808 ≤ two k a b ∧ two k a b ≤ 9223372036854775807 := by
  unfold two
  split
  · omega
  · split
    · omega
    · unfold wrap64; omega
theorem gstep_ok (k : Int) (out : List Pr) (p : Pr) (P : Pr → Prop) (h : ∀ x ∈ out, P x) (hp : P p) (h2 : ∀ q, P q → q.1 = p.1 → P (q.1, two k q.2 p.2)) : ∀ x ∈ gstep k out p, P x := by
  rcases list_end out with rfl | ⟨S, q, rfl⟩
  · rw [gstep_nil]
    intro x hx
    obtain rfl := List.mem_singleton.1 hx
    exact hp
  · by_cases he : q.1 = p.1
    · rw [gstep_same he]
      intro x hx
      rcases List.mem_append.1 hx with hx | hx
      · exact h x (List.mem_append_left _ hx)
      · obtain rfl := List.mem_singleton.1 hx
        exact h2 q (h q (by simp)) he
    · rw [gstep_other he]
      intro x hx
      rcases List.mem_append.1 hx with hx | hx
      · exact h x hx
      · obtain rfl := List.mem_singleton.1 hx
        exact hp
theorem groups_all (k : Int) (P : Pr → Prop) (h2 : ∀ q p, P q → P p → q.1 = p.1 → P (q.1, two k q.2 p.2)) : ∀ (l : List Pr), (∀ x ∈ l, P x) → ∀ x ∈ groups k l, P x := by
  intro l
  induction l using rev_ind2 with
  | h0 => intro _ x hx; simp [groups] at hx
  | hs l p ih =>
    intro h
    rw [groups_snoc]
    exact gstep_ok k _ p P (ih fun x hx => h x (List.mem_append_left _ hx)) (h p (by simp)) fun q hq he => h2 q p hq (h p (by simp)) he
theorem okP.groups {l : List Pr} (h : okP l) (k : Int) : okP (groups k l) :=
  ⟨Nat.le_trans (groups_length k l) h.1, groups_all k (fun p => p.1.size ≤ 100000 ∧ -9223372036854775808 ≤ p.2 ∧ p.2 ≤ 9223372036854775807) (fun q p hq hp _ => ⟨hq.1, two_bd k q.2 p.2 hq.2 hp.2⟩) l h.2⟩
theorem okP.sub {l m : List Pr} (h : okP l) (hs : m.Sublist l) : okP m := ⟨Nat.le_trans hs.length_le h.1, fun p hp => h.2 p (hs.subset hp)⟩
/-- the run in block g: its kind, the pairs, how far it is, what is out -/
structure RunAt (w : World) (base g : Nat) (kind : Int) (L : List Pr) (n : Nat) (out : List Pr) (la : Option Addr) (lc : Nat) (va : Value) : Prop where
  bk : Bk w g [.int .i64 kind, .slice la L.length lc, .int .i64 n, va]
  lo : base ≤ g
  sl : Sl 2 encP w la L
  own : Own 2 encP 101 w base va out
  apart : va.ownBlock ≠ some g ∧ ∀ b off, la = some ⟨b, off, none⟩ → b ≠ g ∧ va.ownBlock ≠ some b
  at_le : n ≤ L.length
theorem RunAt.later {w w' : World} {base g : Nat} {kind : Int} {L : List Pr} {n : Nat} {out : List Pr} {la : Option Addr} {lc : Nat} {va : Value} (h : RunAt w base g kind L n out la lc va) (hb : Below w.heap.size w w') : RunAt w' base g kind L n out la lc va :=
  ⟨h.bk.later hb, h.lo, h.sl.later hb (Nat.le_refl _), h.own.later hb, h.apart, h.at_le⟩
theorem Out_any {base g : Nat} {kind : Int} {L : List Pr} {n : Nat} {out : List Pr} {la : Option Addr} {lc : Nat} {va : Value} (w : World) (hg : GT w) (h : RunAt w base g kind L n out la lc va) (hok : okP out) :
    Calls Tryz.prog 36 #[.pointer (some ⟨g, 0, none⟩)] w fun e w' => e = .returned (.string (tx (textP out))) ∧ Below w.heap.size w w' := by
  obtain ⟨oa, oc, rfl⟩ := id h.own.1
  have c3 := h.bk.get (j := 3) rfl
  have HT := hide (Text_any oa oc out w hg hok (h.own.sl encP_len))
  clear h hok hg
  go_enter Tryz.func36, Tryz.ntmps36
  go_wp2_with fail
  refine HT.out.mono ?_
  rintro e w1 ⟨rfl, b1⟩
  have HB := hide b1
  clear b1 HT
  go_wp2
  go_ret
  exact ⟨rfl, HB.out⟩
set_option maxRecDepth 100000 in
set_option maxHeartbeats 1000000 in
theorem Save_any {base g : Nat} {kind : Int} {L : List Pr} {n : Nat} {out : List Pr} {la : Option Addr} {lc : Nat} {va : Value} (w : World) (hg : GW w) (h : RunAt w base g kind L n out la lc va) (hok : okP out) (hn : n ≤ 1000000) :
    Calls Tryz.prog 35 #[.pointer (some ⟨g, 0, none⟩)] w fun e w' => e = .returned (.string (tx (saveP n out))) ∧ Below w.heap.size w w' := by
  obtain ⟨oa, oc, rfl⟩ := id h.own.1
  have c2 := h.bk.get (j := 2) rfl
  have c3 := h.bk.get (j := 3) rfl
  have HI := hide fun w' (hb : Below w.heap.size w w') => Itoa_any (n : Int) w' (hg.later hb (Nat.le_refl _)) (by omega) (by omega)
  have HT := hide fun w' (hb : Below w.heap.size w w') => Text_any oa oc out w' (hg.later hb (Nat.le_refl _)) hok ((h.own.sl encP_len).later hb (Nat.le_refl _))
  have k2 := cell_regrown c2
  have k3 := cell_regrown c3
  have HE : Hid (((tx (Lib.itoa (n : Int)) ++ ⟨#[10]⟩) ++ tx (textP out) : ByteArray) = tx (saveP n out)) := by
    apply tl_inj
    rw [tl, tl, tx_list]
    simp [tx, ByteArray.data_append, saveP]
  have z1 : (tx (Lib.itoa (n : Int))).size ≤ 20 := by rw [tx_size]; exact itoa_len (by omega) (by omega)
  have z2 : (tx (textP out)).size ≤ 10004300000 := by rw [tx_size]; have := hok.take out.length; rwa [List.take_length] at this
  generalize tx (Lib.itoa (n : Int)) = D at *
  generalize tx (textP out) = T at *
  have n1 : ¬ 9223372036854775807 < D.size + 1 := by omega
  have n2 : ¬ 9223372036854775807 < D.size + 1 + T.size := by omega
  clear h hok hg z1 z2
  go_enter Tryz.func35, Tryz.ntmps35
  go_upto_region 1 with (fail)
  refine wp_region_quiet_below (by kernel_rfl) (by kernel_rfl) ?_
  repeat (go_big_quiet_step (first
    | (go_at_call 42; exact Calls.regrown_of (HI.out _ (below_regrown _ _ _)))
    | (go_at_call 76; exact Calls.regrown_of (HT.out _ (below_regrown _ _ _)))))
  refine wpQuiet_nil ?_
  intro _ hw'
  obtain ⟨⟨dq, osq⟩, hw''⟩ := hw'
  subst hw''
  go_wp2
  go_ret
  exact ⟨by rw [← HE.out]; rfl, below_regrown w dq osq⟩
end Go.Proofs.YtgeedjlbajmdkaaGreatDoor
