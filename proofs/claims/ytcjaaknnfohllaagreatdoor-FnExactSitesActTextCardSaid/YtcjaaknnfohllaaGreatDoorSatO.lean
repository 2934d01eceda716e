/- The reference's SitesActText walked. -/
import Derived.Test.YtcjaaknnfohllaaGreatDoorSatN
namespace Go.Proofs.YtcjaaknnfohllaaGreatDoor
open Go.RowKit

def KeepMax (x : Act) : Prop := ∀ z ∈ x.keep, z ≤ 9223372036854775807
/-- What a right operation of a site is. -/
theorem actB_cases {x : Act} (h : actB x = true) :
    (x.k = 1 ∧ x.r.size ≤ 8 ∧ x.l.size ≤ 8 ∧ nameB x.r = true ∧ nameB x.l = true ∧ x.args.length ≤ 5 ∧ x.input.length ≤ 8 ∧ (∀ y ∈ x.args, y.size ≤ 64) ∧ (∀ y ∈ x.input, y.size ≤ 64)) ∨
    ((x.k = 2 ∨ x.k = 3 ∨ x.k = 4 ∨ x.k = 5 ∨ x.k = 6) ∧ 0 ≤ x.a ∧ x.a ≤ 1000) ∨
    (x.k = 7 ∧ -1 ≤ x.a ∧ x.a ≤ 1700 ∧ x.keep.length ≤ 400 ∧ ∀ j, j < x.keep.length → 0 ≤ x.keep.getD j 0) := by
  unfold actB at h
  by_cases k1 : x.k = 1
  · rw [if_pos k1] at h
    simp only [Bool.and_eq_true, decide_eq_true_eq] at h
    obtain ⟨⟨⟨⟨⟨_, _⟩, h3⟩, h4⟩, h5⟩, h6⟩ := h
    have n1 := h3; have n2 := h4
    unfold nameB at n1 n2
    simp only [Bool.and_eq_true, decide_eq_true_eq] at n1 n2
    unfold textsB shortB at h5 h6
    simp only [Bool.and_eq_true, decide_eq_true_eq, List.all_eq_true] at h5 h6
    exact .inl ⟨k1, n1.1.2, n2.1.2, h3, h4, h5.1, h6.1, h5.2, h6.2⟩
  · rw [if_neg k1] at h
    split at h
    · cases h
    · split at h
      · cases h
      · by_cases k2 : x.k = 2
        · rw [if_pos k2] at h
          unfold inB at h; rw [decide_eq_true_eq] at h
          exact .inr (.inl ⟨.inl k2, by omega, by omega⟩)
        · rw [if_neg k2] at h
          by_cases k3 : x.k = 3 ∨ x.k = 4 ∨ x.k = 6
          · rw [if_pos k3, decide_eq_true_eq] at h
            exact .inr (.inl ⟨by omega, by omega, by omega⟩)
          · rw [if_neg k3] at h
            by_cases k5 : x.k = 5
            · rw [if_pos k5] at h
              unfold inB at h; rw [decide_eq_true_eq] at h
              exact .inr (.inl ⟨by omega, by omega, by omega⟩)
            · rw [if_neg k5] at h
              by_cases k7 : x.k = 7
              · rw [if_pos k7, Bool.and_eq_true] at h
                have h1 := h.1
                unfold inB at h1; rw [decide_eq_true_eq] at h1
                have h2 := keepB_facts h.2
                exact .inr (.inr ⟨k7, h1.1, h1.2, h2.1, h2.2⟩)
              · rw [if_neg k7] at h; cases h

theorem mainW_few {x : Act} (h : x.k = 2 ∨ x.k = 3 ∨ x.k = 4 ∨ x.k = 5 ∨ x.k = 6) : mainW x = fewW x.k x.a := by
  unfold mainW fewW
  rcases h with h | h | h | h | h <;> rw [h] <;> rfl
theorem mainW_crash {x : Act} (h : x.k = 7) : mainW x = wCrash :: (x.a :: x.keep).map decW := by
  unfold mainW; rw [h]; rfl
theorem mainW_job {x : Act} (h : x.k = 1) : mainW x = wJob :: jobW x := by
  unfold mainW; rw [if_pos h]
theorem mainW_small {x : Act} (h : actB x = true) (hK : KeepMax x) : (mainW x).length ≤ 500 ∧ ∀ y ∈ mainW x, y.size ≤ 1000 := by
  have hd : ∀ n : Int, -1 ≤ n → n ≤ 9223372036854775807 → (decW n).size ≤ 1000 := fun n h1 h2 => Nat.le_trans (decW_size n (by omega) h2) (by decide)
  rcases actB_cases h with ⟨k1, h1, h2, _, _, h3, h4, h5, h6⟩ | ⟨hk, h1, h2⟩ | ⟨k7, h1, h2, h3, h4⟩
  · rw [mainW_job k1]
    unfold jobW inW
    have hp : ∀ (L : List ByteArray), (∀ y ∈ L, y.size ≤ 64) → ∀ y ∈ L.map plainW, y.size ≤ 1000 := fun L hL y hy => by
      obtain ⟨z, hz, e⟩ := List.mem_map.1 hy
      have := plainW_size z
      have := hL z hz
      rw [← e]; omega
    refine ⟨?_, ?_⟩
    · simp only [List.length_cons, List.length_append, List.length_map]
      split
      · simp only [List.length_nil]; omega
      · simp only [List.length_cons, List.length_map]; omega
    · intro y hy
      rcases List.mem_cons.1 hy with e | hy
      · rw [e]; decide
      · rcases List.mem_cons.1 hy with e | hy
        · rw [e]; omega
        · rcases List.mem_cons.1 hy with e | hy
          · rw [e]; omega
          · rcases List.mem_append.1 hy with hy | hy
            · exact hp _ h5 y hy
            · split at hy
              · cases hy
              · rcases List.mem_cons.1 hy with e | hy
                · rw [e]; decide
                · exact hp _ h6 y hy
  · rw [mainW_few hk]
    unfold fewW
    have hda := hd x.a (by omega) (by omega)
    split
    · refine ⟨by show 2 ≤ _; omega, fun y hy => ?_⟩
      rcases List.mem_cons.1 hy with e | hy
      · rw [e]; decide
      · rw [List.mem_singleton.1 hy]; exact hda
    · split
      · exact ⟨by show 1 ≤ _; omega, fun y hy => by rw [List.mem_singleton.1 hy]; decide⟩
      · split
        · exact ⟨by show 1 ≤ _; omega, fun y hy => by rw [List.mem_singleton.1 hy]; decide⟩
        · split
          · refine ⟨by show 2 ≤ _; omega, fun y hy => ?_⟩
            rcases List.mem_cons.1 hy with e | hy
            · rw [e]; decide
            · rw [List.mem_singleton.1 hy]; exact hda
          · exact ⟨by show 1 ≤ _; omega, fun y hy => by rw [List.mem_singleton.1 hy]; decide⟩
  · rw [mainW_crash k7]
    refine ⟨by rw [List.length_cons, List.length_map, List.length_cons]; omega, fun y hy => ?_⟩
    rcases List.mem_cons.1 hy with e | hy
    · rw [e]; decide
    · obtain ⟨z, hz, e⟩ := List.mem_map.1 hy
      rw [← e]
      rcases List.mem_cons.1 hz with e2 | hz
      · rw [e2]; exact hd _ h1 (by omega)
      · obtain ⟨j, hj, e3⟩ := List.getElem_of_mem hz
        have h5 := h4 j hj
        rw [List.getD_eq_getElem?_getD, List.getElem?_eq_getElem hj] at h5
        have h6 : 0 ≤ z := by rw [← e3]; exact h5
        exact hd z (by omega) (hK z hz)

theorem l34Main_any (x : Act) (v : Value) (lo hi : Nat) (w : World) (hx : ActR w lo hi v x) (hhi : hi ≤ w.heap.size) (hB : actB x = true) (hK : KeepMax x) :
    Calls Tryz.prog 80 #[v] w fun e w' => (∃ v', e = .returned v' ∧ OwnStrs w' w.heap.size 9 v' (if (mainW x).all noSp then mainW x else [])) ∧ Below w.heap.size w w' := by
  obtain ⟨A, c, B, d, C, e, rfl, hA, hBr, hC⟩ := hx
  rcases actB_cases hB with ⟨k1, h1, h2, n1, n2, h3, h4, h5, h6⟩ | ⟨hk, h1, h2⟩ | ⟨k7, h1, h2, h3, h4⟩
  · have e1 : (mainW x).all noSp = ((x.args.map plainW).all noSp && (x.input.map plainW).all noSp) := by rw [mainW_job k1, job_noSp x n1 n2]
    rw [e1, mainW_job k1, k1]
    unfold jobW
    exact l34Main_job x.a x.r x.l x.args x.input x.keep.length A B C c d e lo hi w hA hBr hhi (by omega) h4 h5 h6
  · rw [if_pos (main_noSp x (by omega)), mainW_few hk]
    exact l34Main_few x.k x.a x.r x.l _ _ _ A B C c d e w hk h1 h2
  · rw [if_pos (main_noSp x (by omega)), mainW_crash k7, k7]
    exact l34Main_crash x.a x.r x.l _ _ x.keep A B C c d e lo hi w hC hhi h1 h2 h3 h4 hK
end Go.Proofs.YtcjaaknnfohllaaGreatDoor
