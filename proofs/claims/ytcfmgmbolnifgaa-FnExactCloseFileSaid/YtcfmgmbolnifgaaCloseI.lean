/- The program's CloseFile walked. -/
import Derived.Test.YtcfmgmbolnifgaaDelete
import Derived.Test.YtcfmgmbolnifgaaCopyDevI
import Derived.Test.YtcfmgmbolnifgaaDevOkI
namespace Go.Proofs.Ytcfmgmbolnifgaa
open Go.RowKit

def noDev : Dev := ⟨0, noScr, [], []⟩
def closeUse (use : Int) (k : Nat) : Int := if use = (k : Int) + 1 then 0 else if (k : Int) + 1 < use then use - 1 else use
def closeDev (d : Dev) (k : Nat) : Dev := ⟨closeUse d.use k, d.scr, d.files.eraseIdx k, d.keys⟩
def closeP (d : Dev) (nm : ByteArray) : Dev × Int := if devB d then (if thereB d.files nm then (closeDev d (place d.files nm), 0) else (noDev, 3)) else (noDev, 1)

structure DevGood (d : Dev) : Prop where
  use0 : 0 ≤ d.use
  usen : d.use ≤ d.files.length
  fine : Fine d.scr
  n3 : d.files.length ≤ 3
  k20 : d.keys.length ≤ 20
  sorted : Sorted d.files
  files : ∀ f ∈ d.files, filB f = true
  keys : keysB d.keys = true
theorem DevGood.of {d : Dev} (h : devB d = true) : DevGood d := by
  unfold devB at h
  simp only [Bool.and_eq_true, decide_eq_true_eq] at h
  obtain ⟨⟨⟨⟨⟨h1, h2⟩, h3⟩, h4⟩, h5⟩, h6⟩ := h
  have hall : ∀ k, k < d.files.length → filOkAt d.files k = true := fun k hk => by
    unfold filsTo at h6
    exact List.all_eq_true.1 h6 k (List.mem_range.2 hk)
  have h1' : 0 ≤ d.use ∧ d.use ≤ d.files.length := by
    unfold inB at h1; simpa using h1
  refine ⟨h1'.1, h1'.2, Fine.of_scrB h2, h3, h4, sorted_of fun k hk hkn => ?_, fun f hf => ?_, h5⟩
  · have := hall k hkn
    unfold filOkAt at this
    simp only [Bool.and_eq_true, Bool.or_eq_true, decide_eq_true_eq] at this
    rcases this.2 with h | h
    · omega
    · exact h
  · obtain ⟨k, hk, rfl⟩ := List.getElem_of_mem hf
    have := hall k hk
    unfold filOkAt at this
    simp only [Bool.and_eq_true] at this
    have h7 := this.1
    rwa [List.getD_eq_getElem?_getD, List.getElem?_eq_getElem hk] at h7

theorem thereB_lt {fs : List Fil} {nm : ByteArray} (h : thereB fs nm = true) : place fs nm < fs.length := by
  unfold thereB at h
  simp only [Bool.and_eq_true, decide_eq_true_eq] at h
  exact h.1

theorem ownDev_none (w : World) (lo hi : Nat) (h : lo ≤ hi) : OwnDev w lo hi (.agg #[.int .i64 0, .int .i64 0, .int .i64 0, .slice none 0 0, .slice none 0 0, .slice none 0 0]) noDev :=
  ⟨none, 0, none, 0, none, 0, lo, lo, lo, lo, lo, lo, rfl, ⟨Nat.le_refl _, h, Nat.le_refl _, h, Nat.le_refl _, h⟩, ⟨.inl (Nat.le_refl _), .inl (Nat.le_refl _), .inl (Nat.le_refl _)⟩, ⟨World.ownsRow_nil _ _ _ _, fun g hg => by cases hg⟩, .inl ⟨rfl, rfl⟩, World.ownsRow_nil _ _ _ _, fun g hg => by cases hg⟩

theorem flat_one (xs : List Fx) : ∀ u ∈ flat xs, u.oneCell' = true := by
  intro u hu
  obtain ⟨x, _, hx⟩ := List.mem_flatMap.1 hu
  simp only [Fx.cells, Fx.sl, List.mem_cons, List.not_mem_nil, or_false] at hx
  rcases hx with rfl | rfl | rfl | rfl <;> rfl

/-- A file is taken out of the row. -/
theorem OwnFx.erase {w w' : World} {lo hi g cap k : Nat} {xs : List Fx} {cur cs' : Array Value} (h : OwnFx w lo hi (.slice (some ⟨g, 0, none⟩) xs.length cap) xs) (hB : Blk w g 91 cur) (hk : k < xs.length) (hO : Only g w w') (hB' : Blk w' g 91 cs') (hs : cs'.size = cur.size)
    (hc : ∀ q, q < (xs.length - 1) * 4 → cs'[q]? = if q < k * 4 then cur[q]? else cur[q + 4]?) : OwnFx w' lo hi (.slice (some ⟨g, 0, none⟩) (xs.length - 1) cap) (xs.eraseIdx k) := by
  obtain ⟨hos, htp, hou, hsz, hbl⟩ := hO
  have hlen : (xs.eraseIdx k).length = xs.length - 1 := by rw [List.length_eraseIdx, if_pos hk]
  have hgw : (Value.slice (some ⟨g, 0, none⟩) xs.length cap).ownBlock = some g := rfl
  have hsub : ∀ x ∈ xs.eraseIdx k, x ∈ xs := fun x hx => (List.eraseIdx_sublist xs k).subset hx
  rcases h.row.2 with ⟨h1, h2⟩ | ⟨g', cap', cur', hv, hg, hh, hnc, hm, hcs, htk⟩
  · omega
  · injection hv with hA _ hcc
    injection hA with hA; injection hA with hA
    subst hA hcc
    have ecur : cur' = cur := by
      have e := hh.symm.trans hB
      injection e with e; injection e with e
    subst ecur
    have hcell : ∀ j (hj : j < xs.length), ∀ i, i < 4 → cur'[j * 4 + i]? = (xs[j]).cells[i]? := fun j hj i hi => by
      rw [← flat_at xs j hj i hi, ← htk, List.getElem?_take, if_pos (by omega), Array.getElem?_toList]
    refine ⟨⟨_, _, by rw [hlen]⟩, ?_, fun b hb => h.top b hb, fun x hx => ?_, fun x hx b hb => h.far x (hsub x hx) b hb, h.apart.sublist (List.eraseIdx_sublist xs k)⟩
    · rw [hlen]
      refine ⟨by rw [flat_len, hlen], .inr ⟨g, cap, cs', rfl, hg, hB', by omega, hm, by omega, ?_⟩⟩
      apply List.ext_getElem?
      intro q
      by_cases hq : q < (xs.length - 1) * 4
      · rw [List.getElem?_take, if_pos hq, Array.getElem?_toList, hc q hq]
        have e : q = q / 4 * 4 + q % 4 := by omega
        have hj : q / 4 < (xs.eraseIdx k).length := by rw [hlen]; omega
        have hr : (flat (xs.eraseIdx k))[q]? = ((xs.eraseIdx k)[q / 4]).cells[q % 4]? := by
          have := flat_at (xs.eraseIdx k) (q / 4) hj (q % 4) (by omega)
          rwa [← e] at this
        rw [hr, List.getElem_eraseIdx]
        by_cases hqk : q < k * 4
        · rw [if_pos hqk, dif_pos (by omega)]
          have := hcell (q / 4) (by omega) (q % 4) (by omega)
          rwa [← e] at this
        · rw [if_neg hqk, dif_neg (by omega)]
          have := hcell (q / 4 + 1) (by omega) (q % 4) (by omega)
          rwa [show (q / 4 + 1) * 4 + q % 4 = q + 4 by omega] at this
      · rw [List.getElem?_take, if_neg hq, List.getElem?_eq_none (by rw [flat_len, hlen]; omega)]
    · obtain ⟨r1, r2⟩ := h.own x (hsub x hx)
      refine ⟨?_, r2⟩
      refine ⟨r1.1, ?_⟩
      rcases r1.2 with r3 | ⟨b, cap2, cur2, e, hb, hcc, r⟩
      · exact .inl r3
      · refine .inr ⟨b, cap2, cur2, e, hb, ?_, r⟩
        rw [hbl b (fun e' => h.far x (hsub x hx) b (by rw [e]; rfl) (by rw [hgw, e']))]
        exact hcc

end Go.Proofs.Ytcfmgmbolnifgaa
