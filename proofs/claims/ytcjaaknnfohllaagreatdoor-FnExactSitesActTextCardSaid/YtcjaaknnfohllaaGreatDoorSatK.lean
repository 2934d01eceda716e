/- The program's words of an operation of a site walked: mainWords. -/
import Derived.Test.YtcjaaknnfohllaaGreatDoorSatJ
namespace Go.Proofs.YtcjaaknnfohllaaGreatDoor
open Go.RowKit

/-- A row that began as a full literal below base: as it was, or of the call's own from base on. -/
def GrowsL {α : Type} (enc : α → Value) (w : World) (base : Nat) (t : TypeId) (v0 : Value) (xs0 : List α) (v : Value) (xs : List α) : Prop := OwnR enc w base t v xs ∨ (xs = xs0 ∧ v = v0)

theorem GrowsL.below {α : Type} {enc : α → Value} {w w' : World} {base : Nat} {t : TypeId} {v0 v : Value} {xs0 xs : List α} (h : GrowsL enc w base t v0 xs0 v xs) (hb : Below w.heap.size w w') : GrowsL enc w' base t v0 xs0 v xs := by
  rcases h with h | h
  · exact .inl (h.below hb)
  · exact .inr h

theorem wpList_app1L {α : Type} {enc : α → Value} {d : α} {P : Program} {ops : Array Oper} {rest : List Oper} {o : Oper} {a : Go.Act} {Q : Exit → Go.Act → World → Prop} (hgd : o.guard = none) (s x : Operand) (t e : TypeId)
    (ho : o.op = .call { callee := .builtin .append, args := #[s, x], argTypes := #[t, t] }) (ht : P.underlying t = some (.slice e))
    {z : Value} {by_ : Nat} (hzz : z.cells.size = 1) (hby : by_ ≤ 16) (hone : ∀ x : α, (enc x).oneCell' = true) (hinfo : (P.info? e).map (fun i => (i.zero, i.size, i.bytes)) = some (some z, 1, by_))
    (w : World) (base lo n0 : Nat) (A0 : Option Addr) (xs0 : List α) (v : Value) (xs : List α) (y : α) (hs : a.eval s = v) (hown : GrowsL enc w base e (.slice A0 n0 n0) xs0 v xs) (hrow : RowR enc d w lo base A0 n0 xs0) (hn0 : 0 < n0)
    (hx : a.eval x = .slice (some ⟨w.heap.size, 0, none⟩) 1 1) (hlen : xs.length ≤ 1000000000) (hbase : base ≤ w.heap.size)
    (h : ∀ v' w', OwnR enc w' base e v' (xs ++ [y]) → Below base w w' → wpList P ops Q rest (a.put o.dst v') w') : wpList P ops Q (o :: rest) a (w.alloc (.cells #[enc y] e)) := by
  rcases hown with hown | ⟨rfl, rfl⟩
  · exact wpList_app1 hgd s x t e ho ht hzz hby hone hinfo w base v xs y hs hown hx hlen hbase h
  · obtain ⟨i0, hi0, hz0, hz1, hz2⟩ := info_parts hinfo
    have hl := hrow.1
    obtain ⟨b, off, rfl, hb1, hb2, hc⟩ := hrow.2 hn0
    have hadd : ∀ j, (⟨b, off, none⟩ : Addr).add j = ⟨b, off + j, none⟩ := fun j => by unfold Addr.add; split <;> simp_all
    refine wpList_append_grows _ hgd s x t ho e i0 _ 1 by_ ht hi0 hz0 hz1 hz2 hzz (by decide) (some ⟨b, off, none⟩) n0 n0 (xs.map enc) hs (fun h => by cases h) (by rw [List.length_map, hl, Nat.mul_one]) (fun b' hb' j u hj => ?_) ⟨w.heap.size, 0, none⟩ 1 1 [enc y] hx rfl ?_ ?_ (by omega) (by unfold maxLen; omega) (Nat.le_trans (Nat.mul_le_mul_left _ hby) (by omega)) ?_
    · injection hb' with hb'
      subst hb'
      rw [List.getElem?_map] at hj
      rcases Nat.lt_or_ge j xs.length with hlt | hge
      · rw [List.getElem?_eq_getElem hlt] at hj
        injection hj with hj
        have h1 := hc j (by omega)
        rw [List.getD_eq_getElem?_getD, List.getElem?_eq_getElem hlt] at h1
        rw [hadd, ← hj]
        exact (World.cell?_of_block (Below.heap_alloc w _ b (by omega))).trans h1
      · rw [List.getElem?_eq_none hge] at hj; cases hj
    · intro j u hj
      match j, hj with
      | 0, hj => simp at hj; subst hj; simp [Addr.add]
    · intro u hu; simp at hu; subst hu; exact hone y
    · intro v' w' h1 h2
      refine h v' w' ⟨?_, ?_⟩ (((Below.refl base w).alloc hbase _).grown h2 (by simp; omega) (by intro k hk; cases hk))
      · rcases h1.2 with ⟨e1, e2⟩ | ⟨g, cap, cur, e1, _⟩
        · omega
        · exact ⟨some ⟨g, 0, none⟩, cap, by rw [e1, List.length_append, hl]; rfl⟩
      · have e3 : (xs ++ [y]).length = n0 + 1 := by rw [List.length_append, hl]; rfl
        rw [e3, List.map_append]
        exact own_mono h1 (by simp; omega)

set_option maxHeartbeats 4000000 in
set_option maxRecDepth 100000 in
theorem mainWords_few (k a : Int) (r l : ByteArray) (na nb nk : Nat) (A B C : Option Addr) (c d e : Nat) (w : World) (hk : k = 2 ∨ k = 3 ∨ k = 4 ∨ k = 5 ∨ k = 6) (ha0 : 0 ≤ a) (ha1 : a ≤ 1000) (hE : EnvIn w) :
    Calls Tryz.prog 32 #[.agg #[.int .i64 k, .int .i64 a, .string r, .string l, .slice A na c, .slice B nb d, .slice C nk e]] w fun e w' => (∃ v, e = .returned v ∧ OwnStrs w' w.heap.size 9 v (fewW k a)) ∧ Below w.heap.size w w' := by
  have HDC := Lib.hid (fun W h => decI_any a (by omega) (by omega) W h)
  have HSW := Lib.hid (fun W => siteWord_any k (by omega) (by omega) W)
  have HBK := Lib.hid (Blk.new w 30 #[.int .i64 k, .int .i64 a, .string r, .string l, .slice A na c, .slice B nb d, .slice C nk e])
  have hD := (Below.refl w.heap.size w).alloc (Nat.le_refl _) (.cells #[.int .i64 k, .int .i64 a, .string r, .string l, .slice A na c, .slice B nb d, .slice C nk e] 30)
  have hsz := alloc_size w (.cells #[.int .i64 k, .int .i64 a, .string r, .string l, .slice A na c, .slice B nb d, .slice C nk e] 30)
  have HE := Lib.hid (hE.1.below hD)
  have HD := Lib.hid hD
  clear hD hE
  rcases hk with rfl | rfl | rfl | rfl | rfl
  · have HW := Lib.hid (show fewW 2 a = [wordK 2] ++ [decW a] from rfl)
    rw [HW.out]
    clear HW
    generalize wordK 2 = X at *
    generalize decW a = D at *
    go_enter Tryz.func32, Tryz.ntmps32
    go_wp2_with fail
    generalize w.alloc (.cells #[.int .i64 2, .int .i64 a, .string r, .string l, .slice A na c, .slice B nb d, .slice C nk e] 30) = w0 at *
    have hlt0 : w.heap.size < w0.heap.size := by omega
    refine (HSW.out _).mono ?_; rintro e1 w1 ⟨rfl, hb1⟩
    have hs1 := hb1.size
    have HB1 := Lib.hid hb1
    have c1 := (HBK.out.below hb1 hlt0).cell
    have c2 := ((HBK.out.below hb1 hlt0).alloc (.cells #[.string (X)] 9)).cell
    have HO := Lib.hid (OwnR.lit_ (enc := Value.string) w1 w0.heap.size 9 [X] (by show 1 ≤ _; omega) hs1)
    clear hb1
    go_wp2_with fail
    refine (HDC.out _ (HE.out.below (HB1.out.alloc hs1 _))).mono ?_; rintro e2 w2 ⟨rfl, hb2⟩
    have hs2 : w0.heap.size ≤ w2.heap.size := Nat.le_trans (HB1.out.alloc hs1 (.cells #[.string (X)] 9)).size hb2.size
    have hown2 := HO.out.below hb2
    have HB2 := Lib.hid ((HB1.out.alloc hs1 (.cells #[.string (X)] 9)).trans (hb2.mono (HB1.out.alloc hs1 (.cells #[.string (X)] 9)).size))
    clear hb2 c1 c2
    go_wp2_with (first
      | fail
      | (at_builtin; refine wpList_app1 (enc := Value.string) rfl (.tmp 21) (.tmp 25) 22 9 rfl Tryz.underlying22 rfl (by omega) (fun _ => rfl) infoTxt w2 w0.heap.size _ [X] D rfl hown2 rfl (by show 1 ≤ _; omega) hs2 ?_; intro v3 w3 hown3 hb3))
    go_ret
    exact ⟨⟨_, rfl, hown3.mono (by omega)⟩, HD.out.trans ((HB2.out.trans hb3).mono (by omega))⟩
  · go_enter Tryz.func32, Tryz.ntmps32
    go_wp2_with fail
    generalize w.alloc (.cells #[.int .i64 3, .int .i64 a, .string r, .string l, .slice A na c, .slice B nb d, .slice C nk e] 30) = w0 at *
    have hlt0 : w.heap.size < w0.heap.size := by omega
    refine (HSW.out _).mono ?_; rintro e1 w1 ⟨rfl, hb1⟩
    have hs1 := hb1.size
    have HB1 := Lib.hid hb1
    have c1 := (HBK.out.below hb1 hlt0).cell
    have c2 := ((HBK.out.below hb1 hlt0).alloc (.cells #[.string (wordK 3)] 9)).cell
    have HO := Lib.hid (OwnR.lit_ (enc := Value.string) w1 w0.heap.size 9 [wordK 3] (by show 1 ≤ _; omega) hs1)
    clear hb1
    go_wp2_with fail
    go_ret
    exact ⟨⟨_, rfl, HO.out.mono (by omega)⟩, HD.out.trans ((HB1.out.alloc hs1 _).mono (by omega))⟩
  · go_enter Tryz.func32, Tryz.ntmps32
    go_wp2_with fail
    generalize w.alloc (.cells #[.int .i64 4, .int .i64 a, .string r, .string l, .slice A na c, .slice B nb d, .slice C nk e] 30) = w0 at *
    have hlt0 : w.heap.size < w0.heap.size := by omega
    refine (HSW.out _).mono ?_; rintro e1 w1 ⟨rfl, hb1⟩
    have hs1 := hb1.size
    have HB1 := Lib.hid hb1
    have c1 := (HBK.out.below hb1 hlt0).cell
    have c2 := ((HBK.out.below hb1 hlt0).alloc (.cells #[.string (wordK 4)] 9)).cell
    have HO := Lib.hid (OwnR.lit_ (enc := Value.string) w1 w0.heap.size 9 [wordK 4] (by show 1 ≤ _; omega) hs1)
    clear hb1
    go_wp2_with fail
    go_ret
    exact ⟨⟨_, rfl, HO.out.mono (by omega)⟩, HD.out.trans ((HB1.out.alloc hs1 _).mono (by omega))⟩
  · have HW := Lib.hid (show fewW 5 a = [wordK 5] ++ [decW a] from rfl)
    rw [HW.out]
    clear HW
    generalize wordK 5 = X at *
    generalize decW a = D at *
    go_enter Tryz.func32, Tryz.ntmps32
    go_wp2_with fail
    generalize w.alloc (.cells #[.int .i64 5, .int .i64 a, .string r, .string l, .slice A na c, .slice B nb d, .slice C nk e] 30) = w0 at *
    have hlt0 : w.heap.size < w0.heap.size := by omega
    refine (HSW.out _).mono ?_; rintro e1 w1 ⟨rfl, hb1⟩
    have hs1 := hb1.size
    have HB1 := Lib.hid hb1
    have c1 := (HBK.out.below hb1 hlt0).cell
    have c2 := ((HBK.out.below hb1 hlt0).alloc (.cells #[.string (X)] 9)).cell
    have HO := Lib.hid (OwnR.lit_ (enc := Value.string) w1 w0.heap.size 9 [X] (by show 1 ≤ _; omega) hs1)
    clear hb1
    go_wp2_with fail
    refine (HDC.out _ (HE.out.below (HB1.out.alloc hs1 _))).mono ?_; rintro e2 w2 ⟨rfl, hb2⟩
    have hs2 : w0.heap.size ≤ w2.heap.size := Nat.le_trans (HB1.out.alloc hs1 (.cells #[.string (X)] 9)).size hb2.size
    have hown2 := HO.out.below hb2
    have HB2 := Lib.hid ((HB1.out.alloc hs1 (.cells #[.string (X)] 9)).trans (hb2.mono (HB1.out.alloc hs1 (.cells #[.string (X)] 9)).size))
    clear hb2 c1 c2
    go_wp2_with (first
      | fail
      | (at_builtin; refine wpList_app1 (enc := Value.string) rfl (.tmp 21) (.tmp 25) 22 9 rfl Tryz.underlying22 rfl (by omega) (fun _ => rfl) infoTxt w2 w0.heap.size _ [X] D rfl hown2 rfl (by show 1 ≤ _; omega) hs2 ?_; intro v3 w3 hown3 hb3))
    go_ret
    exact ⟨⟨_, rfl, hown3.mono (by omega)⟩, HD.out.trans ((HB2.out.trans hb3).mono (by omega))⟩
  · go_enter Tryz.func32, Tryz.ntmps32
    go_wp2_with fail
    generalize w.alloc (.cells #[.int .i64 6, .int .i64 a, .string r, .string l, .slice A na c, .slice B nb d, .slice C nk e] 30) = w0 at *
    have hlt0 : w.heap.size < w0.heap.size := by omega
    refine (HSW.out _).mono ?_; rintro e1 w1 ⟨rfl, hb1⟩
    have hs1 := hb1.size
    have HB1 := Lib.hid hb1
    have c1 := (HBK.out.below hb1 hlt0).cell
    have c2 := ((HBK.out.below hb1 hlt0).alloc (.cells #[.string (wordK 6)] 9)).cell
    have HO := Lib.hid (OwnR.lit_ (enc := Value.string) w1 w0.heap.size 9 [wordK 6] (by show 1 ≤ _; omega) hs1)
    clear hb1
    go_wp2_with fail
    go_ret
    exact ⟨⟨_, rfl, HO.out.mono (by omega)⟩, HD.out.trans ((HB1.out.alloc hs1 _).mono (by omega))⟩

set_option maxHeartbeats 4000000 in
set_option maxRecDepth 100000 in
theorem mainWords_job (x : Act) (v : Value) (lo hi : Nat) (w : World) (hx : ActR w lo hi v x) (hhi : hi ≤ w.heap.size) (hk : x.k = 1) (hE : EnvIn w) (h1 : x.args.length ≤ 8) (h2 : x.input.length ≤ 8) (h3 : ∀ y ∈ x.args, y.size ≤ 64) (h4 : ∀ y ∈ x.input, y.size ≤ 64) :
    Calls Tryz.prog 32 #[v] w fun e w' => (∃ v', e = .returned v' ∧ OwnStrs w' w.heap.size 9 v' (wJob :: jobW x)) ∧ Below w.heap.size w w' := by
  have hx0 := hx
  obtain ⟨A, c, B, d, C, e, rfl, hA, hBr, hC⟩ := hx
  have HJ := Lib.hid (fun W (hb : Below w.heap.size w W) => jobWords_any x _ lo hi W (hx0.below hb hhi) (Nat.le_trans hhi hb.size) (hE.below hb) h1 h2 h3 h4)
  have hJ : (jobW x).length ≤ 20 := by
    unfold jobW inW
    simp only [List.length_cons, List.length_append, List.length_map]
    split
    · simp only [List.length_nil]; omega
    · simp only [List.length_cons, List.length_map]; omega
  clear hx0 hA hBr hC h1 h2 h3 h4 hE
  generalize jobW x = J at *
  rw [hk] at HJ ⊢
  have HSW := Lib.hid (fun W => siteWord_any 1 (by omega) (by omega) W)
  have HBK := Lib.hid (Blk.new w 30 #[.int .i64 1, .int .i64 x.a, .string x.r, .string x.l, .slice A x.args.length c, .slice B x.input.length d, .slice C x.keep.length e])
  have hD := (Below.refl w.heap.size w).alloc (Nat.le_refl _) (.cells #[.int .i64 1, .int .i64 x.a, .string x.r, .string x.l, .slice A x.args.length c, .slice B x.input.length d, .slice C x.keep.length e] 30)
  have hsz := alloc_size w (.cells #[.int .i64 1, .int .i64 x.a, .string x.r, .string x.l, .slice A x.args.length c, .slice B x.input.length d, .slice C x.keep.length e] 30)
  have HD := Lib.hid hD
  have HW := Lib.hid (show wJob :: J = [wordK 1] ++ J from rfl)
  rw [HW.out]
  clear hD hk HW
  generalize wordK 1 = X at *
  go_enter Tryz.func32, Tryz.ntmps32
  go_wp2_with fail
  generalize w.alloc (.cells #[.int .i64 1, .int .i64 x.a, .string x.r, .string x.l, .slice A x.args.length c, .slice B x.input.length d, .slice C x.keep.length e] 30) = w0 at *
  have hlt0 : w.heap.size < w0.heap.size := by omega
  refine (HSW.out _).mono ?_; rintro e1 w1 ⟨rfl, hb1⟩
  have hs1 := hb1.size
  have HB1 := Lib.hid hb1
  have c1 := (HBK.out.below hb1 hlt0).cell
  have c2 := ((HBK.out.below hb1 hlt0).alloc (.cells #[.string (X)] 9)).cell
  have HO := Lib.hid (OwnR.lit_ (enc := Value.string) w1 w0.heap.size 9 [X] (by show 1 ≤ _; omega) hs1)
  clear hb1
  go_wp2_with fail
  refine (HJ.out _ (HD.out.trans ((HB1.out.alloc hs1 _).mono (by omega)))).mono ?_; rintro e2 w2 ⟨⟨v2, rfl, hv2⟩, hb2⟩
  obtain ⟨A2, c2', rfl⟩ := hv2.1
  have hs2 : w0.heap.size ≤ w2.heap.size := Nat.le_trans (HB1.out.alloc hs1 (.cells #[.string (X)] 9)).size hb2.size
  have hown2 := HO.out.below hb2
  have HB2 := Lib.hid ((HB1.out.alloc hs1 (.cells #[.string (X)] 9)).trans (hb2.mono (HB1.out.alloc hs1 (.cells #[.string (X)] 9)).size))
  have hr2 := OwnR.reads (d := ByteArray.empty) hv2
  clear hb2 c1 c2 hv2
  go_wp2_with (first
    | fail
    | (at_builtin; refine wpList_appR (enc := Value.string) (d := ByteArray.empty) rfl (.tmp 14) (.tmp 16) 22 9 rfl Tryz.underlying22 rfl (by omega) (fun _ => rfl) infoTxt w2 w0.heap.size _ [X] J rfl hown2 A2 c2' _ _ rfl hr2 (by show 1 + _ ≤ _; omega) hs2 ?_; intro v3 w3 hown3 hb3))
  go_ret
  exact ⟨⟨_, rfl, hown3.mono (by omega)⟩, HD.out.trans ((HB2.out.trans hb3).mono (by omega))⟩

set_option maxHeartbeats 8000000 in
set_option maxRecDepth 100000 in
theorem mainWords_crash (a : Int) (r l : ByteArray) (na nb : Nat) (xkeep : List Int) (A B C : Option Addr) (c d e lo hi : Nat) (w : World) (hC : IntR w lo hi C xkeep.length xkeep) (hhi : hi ≤ w.heap.size) (hE : EnvIn w)
    (ha0 : -1 ≤ a) (ha1 : a ≤ 1700) (hk : xkeep.length ≤ 400) (h0 : ∀ j, j < xkeep.length → 0 ≤ xkeep.getD j 0) (hmax : ∀ z ∈ xkeep, z ≤ 9223372036854775807) :
    Calls Tryz.prog 32 #[.agg #[.int .i64 7, .int .i64 a, .string r, .string l, .slice A na c, .slice B nb d, .slice C xkeep.length e]] w fun e w' => (∃ v, e = .returned v ∧ OwnStrs w' w.heap.size 9 v (wCrash :: (a :: xkeep).map decW)) ∧ Below w.heap.size w w' := by
  have HSW := Lib.hid (fun W => siteWord_any 7 (by omega) (by omega) W)
  have HBK := Lib.hid (Blk.new w 30 #[.int .i64 7, .int .i64 a, .string r, .string l, .slice A na c, .slice B nb d, .slice C xkeep.length e])
  have hD := (Below.refl w.heap.size w).alloc (Nat.le_refl _) (.cells #[.int .i64 7, .int .i64 a, .string r, .string l, .slice A na c, .slice B nb d, .slice C xkeep.length e] 30)
  have hsz := alloc_size w (.cells #[.int .i64 7, .int .i64 a, .string r, .string l, .slice A na c, .slice B nb d, .slice C xkeep.length e] 30)
  have HC := Lib.hid (hC.below hD hhi)
  have HE := Lib.hid (hE.1.below hD)
  have HD := Lib.hid hD
  have hin : ∀ z ∈ a :: xkeep, -9223372036854775807 ≤ z ∧ z ≤ 9223372036854775807 := fun z hz => by
    rcases List.mem_cons.1 hz with e | hz
    · subst e; exact ⟨by omega, by omega⟩
    · obtain ⟨j, hj, e3⟩ := List.getElem_of_mem hz
      have h5 := h0 j hj
      rw [List.getD_eq_getElem?_getD, List.getElem?_eq_getElem hj] at h5
      have h6 : 0 ≤ z := by rw [← e3]; exact h5
      exact ⟨by omega, hmax z hz⟩
  have hls : (a :: xkeep).length = xkeep.length + 1 := rfl
  have HYS := Lib.hid (show [a] ++ xkeep = a :: xkeep from rfl)
  have HYL := Lib.hid (show [a].length + xkeep.length ≤ 1000000000 by show 1 + _ ≤ _; omega)
  generalize hys : a :: xkeep = ys at *
  have HG := Lib.hid (fun j (hj : j < ys.length) => hin (ys.getD j 0) (by rw [List.getD_eq_getElem?_getD, List.getElem?_eq_getElem hj]; exact List.getElem_mem _))
  have HTK := Lib.hid (fun j (hj : j < ys.length) => (show (wCrash :: (ys.take (j + 1)).map decW) = (wCrash :: (ys.take j).map decW) ++ [decW (ys.getD j 0)] by rw [take_one_more ys 0 j hj, List.map_append]; rfl))
  have HALL := Lib.hid (show (wCrash :: (ys.take ys.length).map decW) = wCrash :: ys.map decW by rw [List.take_length])
  clear hC hD hE h0 hmax hin hys
  go_enter Tryz.func32, Tryz.ntmps32
  go_wp2_with fail
  generalize w.alloc (.cells #[.int .i64 7, .int .i64 a, .string r, .string l, .slice A na c, .slice B nb d, .slice C xkeep.length e] 30) = w0 at *
  have hlt0 : w.heap.size < w0.heap.size := by omega
  refine (HSW.out _).mono ?_; rintro e1 w1 ⟨rfl, hb1⟩
  have hs1 := hb1.size
  have HB1 := Lib.hid hb1
  have hsL := alloc_size w1 (.cells #[.string (wordK 7)] 9)
  have hBL := HB1.out.alloc hs1 (.cells #[.string (wordK 7)] 9)
  have HBL := Lib.hid hBL
  have HRL := Lib.hid (show RowR Value.string ByteArray.empty (w1.alloc (.cells #[.string (wordK 7)] 9)) w1.heap.size (w1.alloc (.cells #[.string (wordK 7)] 9)).heap.size (some ⟨w1.heap.size, 0, none⟩) 1 [wordK 7] from OwnR.reads (d := ByteArray.empty) (OwnR.lit_ (enc := Value.string) w1 w1.heap.size 9 [wordK 7] (by show 1 ≤ _; omega) (Nat.le_refl _)))
  have HBKL := Lib.hid ((HBK.out.below hb1 hlt0).alloc (.cells #[.string (wordK 7)] 9))
  have HCL := Lib.hid (HC.out.below hBL (by omega))
  have c1 := (HBK.out.below hb1 hlt0).cell
  have HWK := Lib.hid (show wordK 7 = wCrash from rfl)
  have c2 := HBKL.out.cell
  clear hb1 hBL
  go_upto_region 9 with fail
  clear hsL
  generalize w1.alloc (.cells #[.string (wordK 7)] 9) = wL at *
  have hsW := HBL.out.size
  rw [HWK.out] at HRL
  have cL := HBKL.out.cell
  have cL2 := (HBKL.out.alloc (.cells #[.int .i64 a] 2)).cell
  have HO9 := Lib.hid (show OwnInts (wL.alloc (.cells #[.int .i64 a] 2)) wL.heap.size 2 (.slice (some ⟨wL.heap.size, 0, none⟩) 1 1) [a] from OwnR.lit_ (enc := Value.int .i64) wL wL.heap.size 2 [a] (by show 1 ≤ _; omega) (Nat.le_refl _))
  have HW9 := Lib.hid ((Below.refl wL.heap.size wL).alloc (Nat.le_refl _) (.cells #[.int .i64 a] 2))
  have HC9 := Lib.hid (HCL.out.below HW9.out (by omega))
  clear c1 c2
  go_wp2_with (first
    | fail
    | (at_builtin; refine wpList_appR (enc := Value.int .i64) (d := (0 : Int)) rfl (.tmp 31) (.tmp 33) 23 2 rfl Tryz.underlying23 rfl (by omega) (fun _ => rfl) infoInt64 _ wL.heap.size _ [a] xkeep rfl HO9.out C e _ _ rfl HC9.out HYL.out HW9.out.size ?_; intro v3 w3 hown3 hb3; rw [HYS.out] at hown3; obtain ⟨A3, c3, rfl⟩ := hown3.1))
  have hs3 := Nat.le_trans HW9.out.size hb3.size
  have HB3 := Lib.hid (HW9.out.trans hb3)
  have HR3 := Lib.hid (OwnR.reads (d := (0 : Int)) hown3)
  have HRL3 := Lib.hid ((HRL.out.below HB3.out (Nat.le_refl _)).more (Nat.le_refl _) hs3)
  have HB03 := Lib.hid (HBL.out.trans (HB3.out.mono HBL.out.size))
  have hs03 := HB03.out.size
  clear hown3 hb3 cL cL2
  go_loopw [3, 36] (fun v i wr => ∃ j : Nat, j ≤ ys.length ∧ i = .int .i64 j ∧ GrowsL Value.string wr w3.heap.size 9 (.slice (some ⟨w1.heap.size, 0, none⟩) 1 1) [wCrash] v (wCrash :: (ys.take j).map decW) ∧ Below w3.heap.size w3 wr) (fun _ i _ => ys.length - (intOf i).toNat)
  case atStart => exact ⟨0, Nat.zero_le _, rfl, .inr ⟨rfl, rfl⟩, Below.refl _ _⟩
  case round =>
    obtain ⟨j, hj, rfl, hown, hbr⟩ := hrel
    have hszr := hbr.size
    have HBR := Lib.hid hbr
    have HRr := HR3.out.below hbr (Nat.le_refl _)
    have HLr := Lib.hid (HRL3.out.below hbr (Nat.le_refl _))
    have hll : (wCrash :: (ys.take j).map decW).length ≤ 500 := by
      rw [List.length_cons, List.length_map, List.length_take]; omega
    clear hbr
    by_cases hlt : j < ys.length
    · obtain ⟨b, off, rfl, _, hbh, hcell⟩ := HRr.at_ hlt
      have i1 : (j : Int) < (ys.length : Int) := by omega
      have i0 : (0 : Int) ≤ (j : Int) := by omega
      have HN := Lib.hid (HTK.out j hlt)
      have hg := HG.out j hlt
      generalize ys.getD j 0 = Z at *
      generalize (wCrash :: (ys.take j).map decW) = L at *
      have HZ := Lib.hid (fun W h => decI_any Z hg.1 hg.2 W h)
      clear hg HRr
      go_wp2_with fail
      refine (HZ.out _ (HE.out.below (HB03.out.trans (HBR.out.mono hs03)))).mono ?_; rintro e5 w5 ⟨rfl, hb5⟩
      have hs5 : w3.heap.size ≤ w5.heap.size := Nat.le_trans hszr hb5.size
      have hown5 := hown.below hb5
      have HL5 := Lib.hid (HLr.out.below hb5 hszr)
      have HB5 := Lib.hid (HBR.out.trans (hb5.mono hszr))
      generalize decW Z = D at *
      clear hb5 hown
      go_wp2_with (first
        | fail
        | (at_builtin; refine wpList_app1L (enc := Value.string) (d := ByteArray.empty) rfl (.tmp 40) (.tmp 43) 22 9 rfl Tryz.underlying22 rfl (by omega) (fun _ => rfl) infoTxt w5 w3.heap.size _ 1 _ _ _ L D rfl hown5 HL5.out (by omega) rfl (by omega) hs5 ?_; intro v6 w6 hown6 hb6))
      go_roundw
      case rel => exact ⟨j + 1, by omega, by go_num, .inl (by rw [HN.out]; exact hown6), HB5.out.trans hb6⟩
      case measure => simp [intOf]; omega
    · have i1 : ¬ (j : Int) < (ys.length : Int) := by omega
      obtain rfl : j = ys.length := by omega
      go_wp2_with fail
      go_ret
      refine ⟨⟨_, rfl, ?_⟩, HD.out.trans ((HB03.out.trans (HBR.out.mono hs03)).mono (by omega))⟩
      rw [HALL.out] at hown
      rcases hown with h | ⟨h, _⟩
      · exact h.mono (by omega)
      · exfalso
        have h1 := congrArg List.length h
        rw [List.length_cons, List.length_map] at h1
        have h2 : [wCrash].length = 1 := rfl
        omega

theorem mainWords_any (x : Act) (v : Value) (lo hi : Nat) (w : World) (hx : ActR w lo hi v x) (hhi : hi ≤ w.heap.size) (hB : actB x = true) (hK : KeepMax x) (hE : EnvIn w) :
    Calls Tryz.prog 32 #[v] w fun e w' => (∃ v', e = .returned v' ∧ OwnStrs w' w.heap.size 9 v' (mainW x)) ∧ Below w.heap.size w w' := by
  rcases actB_cases hB with ⟨k1, _, _, _, _, h3, h4, h5, h6⟩ | ⟨hk, h1, h2⟩ | ⟨k7, h1, h2, h3, h4⟩
  · rw [mainW_job k1]
    exact mainWords_job x v lo hi w hx hhi k1 hE (by omega) h4 h5 h6
  · obtain ⟨A, c, B, d, C, e, rfl, _, _, _⟩ := hx
    rw [mainW_few hk]
    exact mainWords_few x.k x.a x.r x.l _ _ _ A B C c d e w hk h1 h2 hE
  · obtain ⟨A, c, B, d, C, e, rfl, _, _, hC⟩ := hx
    rw [mainW_crash k7, k7]
    exact mainWords_crash x.a x.r x.l _ _ x.keep A B C c d e lo hi w hC hhi hE h1 h2 h3 h4 hK
end Go.Proofs.YtcjaaknnfohllaaGreatDoor
