/- slices.Delete at files, one file: walked. -/
import Derived.Test.YtcfmgmbolnifgaaSearch
import Derived.Deep.RegionLaw
namespace Go.Proofs.Ytcfmgmbolnifgaa
open Go.RowKit

theorem Blk.setCells {g : Nat} {t : TypeId} : ∀ (vs : List Value) (o : Nat) (w : World) (cs : Array Value), Blk w g t cs → ∃ cs', Blk (w.setCells g o vs) g t cs' ∧ cs'.size = cs.size ∧ ∀ k, cs'[k]? = if o ≤ k ∧ k < o + vs.length ∧ k < cs.size then vs[k - o]? else cs[k]?
  | [], o, w, cs, h => ⟨cs, h, rfl, fun k => by rw [if_neg (by simp; omega)]⟩
  | v :: vs, o, w, cs, h => by
    obtain ⟨cs', h1, h2, h3⟩ := Blk.setCells vs (o + 1) (w.setCell ⟨g, o, none⟩ v) _ (h.set_ o v)
    refine ⟨cs', h1, by rw [h2]; simp, fun k => ?_⟩
    rw [h3 k, Array.size_setIfInBounds]
    by_cases hk : k = o
    · subst hk
      rw [if_neg (by omega)]
      by_cases hs : k < cs.size
      · rw [Array.getElem?_setIfInBounds_self_of_lt hs, if_pos ⟨Nat.le_refl _, by simp, hs⟩]; simp
      · rw [if_neg (by omega), Array.getElem?_eq_none (by simp; omega), Array.getElem?_eq_none (by omega)]
    · rw [Array.getElem?_setIfInBounds_ne (fun e => hk e.symm)]
      by_cases hc : o + 1 ≤ k ∧ k < o + 1 + vs.length ∧ k < cs.size
      · rw [if_pos hc, if_pos ⟨by omega, by simp; omega, hc.2.2⟩]
        rw [show k - o = (k - (o + 1)) + 1 by omega, List.getElem?_cons_succ]
      · rw [if_neg hc, if_neg (by simp; omega)]

def zeroCs : List Value := [.string ⟨#[]⟩, .slice none 0 0, .string ⟨#[]⟩, .int .i64 0]
theorem zeroFile_run (w : World) : (zeroValue 91).run Try.prog w = .ok (.agg #[.string ⟨#[]⟩, .slice none 0 0, .string ⟨#[]⟩, .int .i64 0]) w := by kernel_rfl
theorem clear_file (w : World) (ty : TypeId) (b o c : Nat) (hc : ∀ j, j < 4 → (w.cell? ⟨b, o + j, none⟩).isSome = true) (hf : ∀ j, j < 4 → w.frozen? ⟨b, o + j, none⟩ = false) :
    (Builtin.clear_ #[59] ty #[.slice (some ⟨b, o, none⟩) 1 c]).run Try.prog w = .ok (.tuple #[]) (w.setCells b o zeroCs) := by
  have hst := run_storeCells_cells (P := Try.prog) b o zeroCs 0 w (by simpa [zeroCs] using hc) (by simpa [zeroCs] using hf) (by intro v hv; simp only [zeroCs, List.mem_cons, List.not_mem_nil, or_false] at hv; rcases hv with rfl | rfl | rfl | rfl <;> rfl)
  simp only [Nat.add_zero] at hst
  have hz : (Builtin.zeroCells (Value.agg #[.string ⟨#[]⟩, .slice none 0 0, .string ⟨#[]⟩, .int .i64 0]).cells 1).toList = zeroCs := by kernel_rfl
  simp [Builtin.clear_, run_underlying Try.underlying59, zeroFile_run, hz, hst]

theorem setCells_same (g : Nat) : ∀ (vs : List Value) (o : Nat) (w : World), (w.setCells g o vs).os = w.os ∧ (w.setCells g o vs).tape = w.tape ∧ (w.setCells g o vs).output = w.output ∧ (w.setCells g o vs).heap.size = w.heap.size ∧ ∀ k, k ≠ g → (w.setCells g o vs).heap[k]? = w.heap[k]?
  | [], _, _ => ⟨rfl, rfl, rfl, rfl, fun _ _ => rfl⟩
  | v :: vs, o, w => by
    obtain ⟨h1, h2, h3, h4, h5⟩ := setCells_same g vs (o + 1) (w.setCell ⟨g, o, none⟩ v)
    exact ⟨h1, h2, h3, h4.trans (by simp [World.setCell]), fun k hk => (h5 k hk).trans (Below.heap_setCell w ⟨g, o, none⟩ v k hk)⟩

/-- Only block g has changed, and draws. -/
def Only (g : Nat) (w w' : World) : Prop := w'.os = w.os ∧ w'.tape = w.tape ∧ w'.output = w.output ∧ w'.heap.size = w.heap.size ∧ ∀ k, k ≠ g → w'.heap[k]? = w.heap[k]?

set_option maxHeartbeats 4000000 in
set_option maxRecDepth 100000 in
theorem deleteFil_any (g cap n i : Nat) (cur : Array Value) (w : World) (hB : Blk w g 91 cur) (hsz : cur.size = cap * 4) (hn : n ≤ cap) (hcap : cap ≤ 9223372036854775807) (hi : i < n) (hone : ∀ u ∈ cur.toList.take (n * 4), u.oneCell' = true) :
    Calls Try.prog 100 #[.slice (some ⟨g, 0, none⟩) n cap, .int .i64 i, .int .i64 (i + 1)] w fun e w' => e = .returned (.slice (some ⟨g, 0, none⟩) (n - 1) cap) ∧
      ∃ cs', Blk w' g 91 cs' ∧ cs'.size = cur.size ∧ (∀ k, k < (n - 1) * 4 → cs'[k]? = if k < i * 4 then cur[k]? else cur[k + 4]?) ∧ Only g w w' := by
  obtain ⟨news, hnews⟩ : ∃ news, news = (cur.toList.drop ((i + 1) * 4)).take ((n - (i + 1)) * 4) := ⟨_, rfl⟩
  have hlen : news.length = (n - (i + 1)) * 4 := by rw [hnews]; simp; omega
  have hget : ∀ t, t < (n - (i + 1)) * 4 → news[t]? = cur[(i + 1) * 4 + t]? := by
    intro t ht
    rw [hnews, List.getElem?_take, if_pos ht, List.getElem?_drop, Array.getElem?_toList]
  obtain ⟨A, hA, hsrc⟩ : ∃ A : Addr, (if cap = i + 1 then some (⟨g, 0, none⟩ : Addr) else some ⟨g, (i + 1) * 4, none⟩) = some A ∧ Hid (∀ t u, news[t]? = some u → w.drew.cell? (A.add t) = some u) := by
    by_cases h : cap = i + 1
    · refine ⟨⟨g, 0, none⟩, by simp [h], fun t u hu => ?_⟩
      have h0 : news.length = 0 := by rw [hlen]; omega
      rw [List.length_eq_zero_iff.1 h0] at hu
      simp at hu
    · refine ⟨⟨g, (i + 1) * 4, none⟩, by simp [h], fun t u hu => ?_⟩
      have ht : t < (n - (i + 1)) * 4 := by
        have := (List.getElem?_eq_some_iff.1 hu).1
        rwa [hlen] at this
      rw [hget t ht] at hu
      rw [Addr.add_lit]
      exact (hB.cell _).trans hu
  have s2 : Hid (∀ u ∈ news, u.oneCell' = true) := by
    intro u hu
    refine hone u ?_
    rw [hnews] at hu
    have := List.take_drop (l := cur.toList) (i := (n - (i + 1)) * 4) (j := (i + 1) * 4)
    rw [show (i + 1) * 4 + (n - (i + 1)) * 4 = n * 4 by omega] at this
    rw [this] at hu
    exact List.mem_of_mem_drop hu
  have s3 : Hid (∀ t, t < news.length → (w.drew.cell? ⟨g, 0 + i * 4 + t, none⟩).isSome = true ∧ w.drew.frozen? ⟨g, 0 + i * 4 + t, none⟩ = false) := by
    intro t ht
    rw [hlen] at ht
    refine ⟨?_, hB.frozen _⟩
    show (w.cell? _).isSome = true
    rw [hB.cell, Array.getElem?_eq_getElem (by omega)]; rfl
  obtain ⟨W1, hW1⟩ : ∃ W1, W1 = w.drew.setCells g (0 + i * 4) news := ⟨_, rfl⟩
  obtain ⟨c1, hB1, hs1, hc1⟩ := Blk.setCells news (0 + i * 4) w.drew cur (hB.drewN 1)
  rw [← hW1] at hB1
  have hcl : ∀ ty c, (Builtin.clear_ #[59] ty #[.slice (some ⟨g, (i + (n - (i + 1))) * 4, none⟩) (n - (i + (n - (i + 1)))) c]).run Try.prog W1 = .ok (.tuple #[]) (W1.setCells g ((i + (n - (i + 1))) * 4) zeroCs) :=
    fun ty c => by rw [show n - (i + (n - (i + 1))) = 1 by omega]; exact clear_file W1 ty g _ c (fun j hj => by rw [hB1.cell, Array.getElem?_eq_getElem (by omega)]; rfl) (fun j hj => hB1.frozen _)
  obtain ⟨c2, hB2, hs2, hc2⟩ := Blk.setCells zeroCs ((i + (n - (i + 1))) * 4) W1 c1 hB1
  have o1 := setCells_same g news (0 + i * 4) w.drew
  have o2 := setCells_same g zeroCs ((i + (n - (i + 1))) * 4) W1
  have HFIN := Lib.hid (show ∃ cs', Blk (W1.setCells g ((i + (n - (i + 1))) * 4) zeroCs) g 91 cs' ∧ cs'.size = cur.size ∧ (∀ k, k < (n - 1) * 4 → cs'[k]? = if k < i * 4 then cur[k]? else cur[k + 4]?) ∧ Only g w (W1.setCells g ((i + (n - (i + 1))) * 4) zeroCs) by
    refine ⟨c2, hB2, by omega, fun k hk => ?_, ?_⟩
    · rw [hc2 k, if_neg (by simp [zeroCs]; omega), hc1 k]
      by_cases h1 : k < i * 4
      · rw [if_neg (by omega), if_pos h1]
      · rw [if_pos ⟨by omega, by rw [hlen]; omega, by omega⟩, if_neg h1, hget _ (by omega)]
        congr 1; omega
    · rw [← hW1] at o1
      exact ⟨o2.1.trans o1.1, o2.2.1.trans o1.2.1, o2.2.2.1.trans o1.2.2.1, o2.2.2.2.1.trans o1.2.2.2.1, fun k hk => (o2.2.2.2.2 k hk).trans (o1.2.2.2.2 k hk)⟩)
  have HS1 := Lib.hid hlen
  obtain ⟨i0, hi0, hz0, hz1, hz2⟩ := info_parts infoFile
  have hW : Hid (W1 = w.drew.setCells g (0 + i * 4) news) := hW1
  have b1 : (0 : Int) ≤ (i : Int) := by omega
  have b2 : (i : Int) + 1 ≤ (n : Int) := by omega
  have b3 : (n : Int) ≤ (cap : Int) := by omega
  have b7 : (0 : Int) ≤ (i : Int) + 1 := by omega
  have b4 : i + 1 ≤ cap := by omega
  have b5 : i ≤ cap := by omega
  have b6 : i + 1 ≤ n := by omega
  have ne : ((i : Int) == (i : Int) + 1) = false := by rw [beq_eq_false_iff_ne]; omega
  clear hW1 hB1 hB2 hc1 hc2 hs1 hs2 hB hget hnews hlen hone o1 o2 hsz
  go_enter Try.func100, Try.ntmps100
  go_wp2_with fail
  go_region_law (refine step_append_room rfl (.tmp 22) (.tmp 25) 59 rfl 91 i0 4 Try.underlying59 hi0 hz1 g 0 i cap (by simp [Act.eval, Act.put]) A (n - (i + 1)) (cap - (i + 1)) news (by simp [Act.eval, Act.put]) HS1.out hsrc.out s2.out (by omega) s3.out ?_; rw [← hW.out])
  go_wp2
  go_ret
  exact ⟨by rw [show n - 1 = i + (n - (i + 1)) by omega]; rfl, HFIN.out⟩

end Go.Proofs.Ytcfmgmbolnifgaa
