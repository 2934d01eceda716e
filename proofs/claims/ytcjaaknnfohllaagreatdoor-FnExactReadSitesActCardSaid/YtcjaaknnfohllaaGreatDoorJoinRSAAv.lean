/- The program's words of an operation of a site walked: mainWords. -/
import Derived.Test.YtcjaaknnfohllaaGreatDoorJoinRSAAu
namespace Go.Proofs.YtcjaaknnfohllaaGreatDoor
open Go.RowKit

/-- A row that began as a full literal below base: as it was, or of the call's own from base on. -/
def GrowsL {α : Type} (enc : α → Value) (w : World) (base : Nat) (t : TypeId) (v0 : Value) (xs0 : List α) (v : Value) (xs : List α) : Prop := OwnR enc w base t v xs ∨ (xs = xs0 ∧ v = v0)

theorem GrowsL.below {α : Type} {enc : α → Value} {w w' : World} {base : Nat} {t : TypeId} {v0 v : Value} {xs0 xs : List α} (h : GrowsL enc w base t v0 xs0 v xs) (hb : Below w.heap.size w w') : GrowsL enc w' base t v0 xs0 v xs := by
  rcases h with h | h
  · exact .inl (h.below hb)
  · exact .inr h

theorem wpList_app1L {α : Type} {enc : α → Value} {d : α} {P : Program} {ops : Array Oper} {rest : List Oper} {o : Oper} {a : Go.Act} {Q : Exit → Go.Act → World → Prop} (hgd : o.guard = none) (s x : Operand) (t e : TypeId)
    (ho : o.op = .call { callee := .builtin .append, args := #[s, x], argTypes := #[t, t] }) (ht : P.underlying t = some (.slice e))
    {z : Value} {by_ : Nat} (hzz : z.cells.size = 1) (hby : by_ ≤ 16) (hone : ∀ x : α, (enc x).oneCell' = true) (hinfo : (P.info? e).map (fun i => (i.zero, i.size, i.bytes)) = some (some z, 1, by_))
    (w : World) (base lo n0 : Nat) (A0 : Option Addr) (xs0 : List α) (v : Value) (xs : List α) (y : α) (hs : a.eval s = v) (hown : GrowsL enc w base e (.slice A0 n0 n0) xs0 v xs) (hrow : RowR enc d w lo base A0 n0 xs0) (hn0 : 0 < n0)
    (hx : a.eval x = .slice (some ⟨w.heap.size, 0, none⟩) 1 1) (hlen : xs.length ≤ 1000000000) (hbase : base ≤ w.heap.size)
    (h : ∀ v' w', OwnR enc w' base e v' (xs ++ [y]) → Below base w w' → wpList P ops Q rest (a.put o.dst v') w') : wpList P ops Q (o :: rest) a (w.alloc (.cells #[enc y] e)) := by
  rcases hown with hown | ⟨rfl, rfl⟩
  · exact wpList_app1 hgd s x t e ho ht hzz hby hone hinfo w base v xs y hs hown hx hlen hbase h
  · obtain ⟨i0, hi0, hz0, hz1, hz2⟩ := info_parts hinfo
    have hl := hrow.1
    obtain ⟨b, off, rfl, hb1, hb2, hc⟩ := hrow.2 hn0
    have hadd : ∀ j, (⟨b, off, none⟩ : Addr).add j = ⟨b, off + j, none⟩ := fun j => by unfold Addr.add; split <;> simp_all
    refine wpList_append_grows _ hgd s x t ho e i0 _ 1 by_ ht hi0 hz0 hz1 hz2 hzz (by decide) (some ⟨b, off, none⟩) n0 n0 (xs.map enc) hs (fun h => by cases h) (by rw [List.length_map, hl, Nat.mul_one]) (fun b' hb' j u hj => ?_) ⟨w.heap.size, 0, none⟩ 1 1 [enc y] hx rfl ?_ ?_ (by omega) (by unfold maxLen; omega) (Nat.le_trans (Nat.mul_le_mul_left _ hby) (by omega)) ?_
    · injection hb' with hb'
      subst hb'
      rw [List.getElem?_map] at hj
      rcases Nat.lt_or_ge j xs.length with hlt | hge
      · rw [List.getElem?_eq_getElem hlt] at hj
        injection hj with hj
        have h1 := hc j (by omega)
        rw [List.getD_eq_getElem?_getD, List.getElem?_eq_getElem hlt] at h1
        rw [hadd, ← hj]
        exact (World.cell?_of_block (Below.heap_alloc w _ b (by omega))).trans h1
      · rw [List.getElem?_eq_none hge] at hj; cases hj
    · intro j u hj
      match j, hj with
      | 0, hj => simp at hj; subst hj; simp [Addr.add]
    · intro u hu; simp at hu; subst hu; exact hone y
    · intro v' w' h1 h2
      refine h v' w' ⟨?_, ?_⟩ (((Below.refl base w).alloc hbase _).grown h2 (by simp; omega) (by intro k hk; cases hk))
      · rcases h1.2 with ⟨e1, e2⟩ | ⟨g, cap, cur, e1, _⟩
        · omega
        · exact ⟨some ⟨g, 0, none⟩, cap, by rw [e1, List.length_append, hl]; rfl⟩
      · have e3 : (xs ++ [y]).length = n0 + 1 := by rw [List.length_append, hl]; rfl
        rw [e3, List.map_append]
        exact own_mono h1 (by simp; omega)

set_option maxHeartbeats 4000000 in
set_option maxRecDepth 100000 in
theorem mainWords_few (k a : Int) (r l : ByteArray) (na nb nk : Nat) (A B C : Option Addr) (c d e : Nat) (w : World) (hk : k = 2 ∨ k = 3 ∨ k = 4 ∨ k = 5 ∨ k = 6) (ha0 : 0 ≤ a) (ha1 : a ≤ 1000) (hE : EnvIn w) :
    Calls Tryz.prog 32 #[.agg #[.int .i64 k, .int .i64 a, .string r, .string l, .slice A na c, .slice B nb d, .slice C nk e]] w fun e w' => (∃ v, e = .returned v ∧ OwnStrs w' w.heap.size 9 v (fewW k a)) ∧ Below w.heap.size w w' := by
  have HDC := Lib.hid (fun W h => decI_any a (by omega) (by omega) W h)
  have HSW := Lib.hid (fun W => siteWord_any k (by omega) (by omega) W)
  have HBK := Lib.hid (Blk.new w 30 #[.int .i64 k, .int .i64 a, .string r, .string l, .slice A na c, .slice B nb d, .slice C nk e])
  have hD := (Below.refl w.heap.size w).alloc (Nat.le_refl _) (.cells #[.int .i64 k, .int .i64 a, .string r, .string l, .slice A na c, .slice B nb d, .slice C nk e] 30)
  have hsz := alloc_size w (.cells #[.int .i64 k, .int .i64 a, .string r, .string l, .slice A na c, .slice B nb d, .slice C nk e] 30)
  have HE := Lib.hid (hE.1.below hD)
  have HD := Lib.hid hD
  clear hD hE
  rcases hk with rfl | rfl | rfl | rfl | rfl
  · have HW := Lib.hid (show fewW 2 a = [wordK 2] ++ [decW a] from rfl)
    rw [HW.out]
    clear HW
    generalize wordK 2 = X at *
    generalize decW a = D at *
    go_enter Tryz.func32, Tryz.ntmps32
    go_wp2_with fail
    generalize w.alloc (.cells #[.int .i64 2, .int .i64 a, .string r, .string l, .slice A na c, .slice B nb d, .slice C nk e] 30) = w0 at *
    have hlt0 : w.heap.size < w0.heap.size := by omega
    refine (HSW.out _).mono ?_; rintro e1 w1 ⟨rfl, hb1⟩
    have hs1 := hb1.size
    have HB1 := Lib.hid hb1
    have c1 := (HBK.out.below hb1 hlt0).cell
    have c2 := ((HBK.out.below hb1 hlt0).alloc (.cells #[.string (X)] 9)).cell
    have HO := Lib.hid (OwnR.lit_ (enc := Value.string) w1 w0.heap.size 9 [X] (by show 1 ≤ _; omega) hs1)
    clear hb1
    go_wp2_with fail
    refine (HDC.out _ (HE.out.below (HB1.out.alloc hs1 _))).mono ?_; rintro e2 w2 ⟨rfl, hb2⟩
    have hs2 : w0.heap.size ≤ w2.heap.size := Nat.le_trans (HB1.out.alloc hs1 (.cells #[.string (X)] 9)).size hb2.size
    have hown2 := HO.out.below hb2
    have HB2 := Lib.hid ((HB1.out.alloc hs1 (.cells #[.string (X)] 9)).trans (hb2.mono (HB1.out.alloc hs1 (.cells #[.string (X)] 9)).size))
    clear hb2 c1 c2
    go_wp2_with (first
      | fail
      | (at_builtin; refine wpList_app1 (enc := Value.string) rfl (.tmp 21) (.tmp 25) 22 9 rfl Tryz.underlying22 rfl (by omega) (fun _ => rfl) infoTxt w2 w0.heap.size _ [X] D rfl hown2 rfl (by show 1 ≤ _; omega) hs2 ?_; intro v3 w3 hown3 hb3))
    go_ret
    exact ⟨⟨_, rfl, hown3.mono (by omega)⟩, HD.out.trans ((HB2.out.trans hb3).mono (by omega))⟩
  · go_enter Tryz.func32, Tryz.ntmps32
    go_wp2_with fail
    generalize w.alloc (.cells #[.int .i64 3, .int .i64 a, .string r, .string l, .slice A na c, .slice B nb d, .slice C nk e] 30) = w0 at *
    have hlt0 : w.heap.size < w0.heap.size := by omega
    refine (HSW.out _).mono ?_; rintro e1 w1 ⟨rfl, hb1⟩
    have hs1 := hb1.size
    have HB1 := Lib.hid hb1
    have c1 := (HBK.out.below hb1 hlt0).cell
    have c2 := ((HBK.out.below hb1 hlt0).alloc (.cells #[.string (wordK 3)] 9)).cell
    have HO := Lib.hid (OwnR.lit_ (enc := Value.string) w1 w0.heap.size 9 [wordK 3] (by show 1 ≤ _; omega) hs1)
    clear hb1
    go_wp2_with fail
    go_ret
    exact ⟨⟨_, rfl, HO.out.mono (by omega)⟩, HD.out.trans ((HB1.out.alloc hs1 _).mono (by omega))⟩
  · go_enter Tryz.func32, Tryz.ntmps32
    go_wp2_with fail
    generalize w.alloc (.cells #[.int .i64 4, .int .i64 a, .string r, .string l, .slice A na c, .slice B nb d, .slice C nk e] 30) = w0 at *
    have hlt0 : w.heap.size < w0.heap.size := by omega
    refine (HSW.out _).mono ?_; rintro e1 w1 ⟨rfl, hb1⟩
    have hs1 := hb1.size
    have HB1 := Lib.hid hb1
    have c1 := (HBK.out.below hb1 hlt0).cell
    have c2 := ((HBK.out.below hb1 hlt0).alloc (.cells #[.string (wordK 4)] 9)).cell
    have HO := Lib.hid (OwnR.lit_ (enc := Value.string) w1 w0.heap.size 9 [wordK 4] (by show 1 ≤ _; omega) hs1)
    clear hb1
    go_wp2_with fail
    go_ret
    exact ⟨⟨_, rfl, HO.out.mono (by omega)⟩, HD.out.trans ((HB1.out.alloc hs1 _).mono (by omega))⟩
  · have HW := Lib.hid (show fewW 5 a = [wordK 5] ++ [decW a] from rfl)
    rw [HW.out]
    clear HW
    generalize wordK 5 = X at *
    generalize decW a = D at *
    go_enter Tryz.func32, Tryz.ntmps32
    go_wp2_with fail
    generalize w.alloc (.cells #[.int .i64 5, .int .i64 a, .string r, .string l, .slice A na c, .slice B nb d, .slice C nk e] 30) = w0 at *
    have hlt0 : w.heap.size < w0.heap.size := by omega
    refine (HSW.out _).mono ?_; rintro e1 w1 ⟨rfl, hb1⟩
    have hs1 := hb1.size
    have HB1 := Lib.hid hb1
    have c1 := (HBK.out.below hb1 hlt0).cell
    have c2 := ((HBK.out.below hb1 hlt0).alloc (.cells #[.string (X)] 9)).cell
    have HO := Lib.hid (OwnR.lit_ (enc := Value.string) w1 w0.heap.size 9 [X] (by show 1 ≤ _; omega) hs1)
    clear hb1
    go_wp2_with fail
    refine (HDC.out _ (HE.out.below (HB1.out.alloc hs1 _))).mono ?_; rintro e2 w2 ⟨rfl, hb2⟩
    have hs2 : w0.heap.size ≤ w2.heap.size := Nat.le_trans (HB1.out.alloc hs1 (.cells #[.string (X)] 9)).size hb2.size
    have hown2 := HO.out.below hb2
    have HB2 := Lib.hid ((HB1.out.alloc hs1 (.cells #[.string (X)] 9)).trans (hb2.mono (HB1.out.alloc hs1 (.cells #[.string (X)] 9)).size))
    clear hb2 c1 c2
    go_wp2_with (first
      | fail
      | (at_builtin; refine wpList_app1 (enc := Value.string) rfl (.tmp 21) (.tmp 25) 22 9 rfl Tryz.underlying22 rfl (by omega) (fun _ => rfl) infoTxt w2 w0.heap.size _ [X] D rfl hown2 rfl (by show 1 ≤ _; omega) hs2 ?_; intro v3 w3 hown3 hb3))
    go_ret
    exact ⟨⟨_, rfl, hown3.mono (by omega)⟩, HD.out.trans ((HB2.out.trans hb3).mono (by omega))⟩
  · go_enter Tryz.func32, Tryz.ntmps32
    go_wp2_with fail
    generalize w.alloc (.cells #[.int .i64 6, .int .i64 a, .string r, .string l, .slice A na c, .slice B nb d, .slice C nk e] 30) = w0 at *
    have hlt0 : w.heap.size < w0.heap.size := by omega
    refine (HSW.out _).mono ?_; rintro e1 w1 ⟨rfl, hb1⟩
    have hs1 := hb1.size
    have HB1 := Lib.hid hb1
    have c1 := (HBK.out.below hb1 hlt0).cell
    have c2 := ((HBK.out.below hb1 hlt0).alloc (.cells #[.string (wordK 6)] 9)).cell
    have HO := Lib.hid (OwnR.lit_ (enc := Value.string) w1 w0.heap.size 9 [wordK 6] (by show 1 ≤ _; omega) hs1)
    clear hb1
    go_wp2_with fail
    go_ret
    exact ⟨⟨_, rfl, HO.out.mono (by omega)⟩, HD.out.trans ((HB1.out.alloc hs1 _).mono (by omega))⟩

set_option maxHeartbeats 4000000 in
set_option maxRecDepth 100000 in
theorem mainWords_job (x : Act) (v : Value) (lo hi : Nat) (w : World) (hx : ActR w lo hi v x) (hhi : hi ≤ w.heap.size) (hk : x.k = 1) (hE : EnvIn w) (h1 : x.args.length ≤ 8) (h2 : x.input.length ≤ 8) (h3 : ∀ y ∈ x.args, y.size ≤ 64) (h4 : ∀ y ∈ x.input, y.size ≤ 64) :
    Calls Tryz.prog 32 #[v] w fun e w' => (∃ v', e = .returned v' ∧ OwnStrs w' w.heap.size 9 v' (wJob :: jobW x)) ∧ Below w.heap.size w w' := by
  have hx0 := hx
  obtain ⟨A, c, B, d, C, e, rfl, hA, hBr, hC⟩ := hx
  have HJ := Lib.hid (fun W (hb : Below w.heap.size w W) => jobWords_any x _ lo hi W (hx0.below hb hhi) (Nat.le_trans hhi hb.size) (hE.below hb) h1 h2 h3 h4)
  have hJ : (jobW x).length ≤ 20 := by
    unfold jobW inW
    simp only [List.length_cons, List.length_append, List.length_map]
    split
    · simp only [List.length_nil]; omega
    · simp only [List.length_cons, List.length_map]; omega
  clear hx0 hA hBr hC h1 h2 h3 h4 hE
  generalize jobW x = J at *
  rw [hk] at HJ ⊢
  have HSW := Lib.hid (fun W => siteWord_any 1 (by omega) (by omega) W)
  have HBK := Lib.hid (Blk.new w 30 #[.int .i64 1, .int .i64 x.a, .string x.r, .string x.l, .slice A x.args.length c, .slice B x.input.length d, .slice C x.keep.length e])
  have hD := (Below.refl w.heap.size w).alloc (Nat.le_refl _) (.cells #[.int .i64 1, .int .i64 x.a, .string x.r, .string x.l, .slice A x.args.length c, .slice B x.input.length d, .slice C x.keep.length e] 30)
  have hsz := alloc_size w (.cells #[.int .i64 1, .int .i64 x.a, .string x.r, .string x.l, .slice A x.args.length c, .slice B x.input.length d, .slice C x.keep.length e] 30)
  have HD := Lib.hid hD
  have HW := Lib.hid (show wJob :: J = [wordK 1] ++ J from rfl)
  rw [HW.out]
  clear hD hk HW
  generalize wordK 1 = X at *
  go_enter Tryz.func32, Tryz.ntmps32
  go_wp2_with fail
  generalize w.alloc (.cells #[.int .i64 1, .int .i64 x.a, .string x.r, .string x.l, .slice A x.args.length c, .slice B x.input.length d, .slice C x.keep.length e] 30) = w0 at *
  have hlt0 : w.heap.size < w0.heap.size := by omega
  refine (HSW.out _).mono ?_; rintro e1 w1 ⟨rfl, hb1⟩
  have hs1 := hb1.size
  have HB1 := Lib.hid hb1
  have c1 := (HBK.out.below hb1 hlt0).cell
  have c2 := ((HBK.out.below hb1 hlt0).alloc (.cells #[.string (X)] 9)).cell
  have HO := Lib.hid (OwnR.lit_ (enc := Value.string) w1 w0.heap.size 9 [X] (by show 1 ≤ _; omega) hs1)
  clear hb1
  go_wp2_with fail
  refine (HJ.out _ (HD.out.trans ((HB1.out.alloc hs1 _).mono (by omega)))).mono ?_; rintro e2 w2 ⟨⟨v2, rfl, hv2⟩, hb2⟩
  obtain ⟨A2, c2', rfl⟩ := hv2.1
  have hs2 : w0.heap.size ≤ w2.heap.size := Nat.le_trans (HB1.out.alloc hs1 (.cells #[.string (X)] 9)).size hb2.size
  have hown2 := HO.out.below hb2
  have HB2 := Lib.hid ((HB1.out.alloc hs1 (.cells #[.string (X)] 9)).trans (hb2.mono (HB1.out.alloc hs1 (.cells #[.string (X)] 9)).size))
  have hr2 := OwnR.reads (d := ByteArray.empty) hv2
  clear hb2 c1 c2 hv2
  go_wp2_with (first
    | fail
    | (at_builtin; refine wpList_appR (enc := Value.string) (d := ByteArray.empty) rfl (.tmp 14) (.tmp 16) 22 9 rfl Tryz.underlying22 rfl (by omega) (fun _ => rfl) infoTxt w2 w0.heap.size _ [X] J rfl hown2 A2 c2' _ _ rfl hr2 (by show 1 + _ ≤ _; omega) hs2 ?_; intro v3 w3 hown3 hb3))
  go_ret
  exact ⟨⟨_, rfl, hown3.mono (by omega)⟩, HD.out.trans ((HB2.out.trans hb3).mono (by omega))⟩

set_option maxHeartbeats 8000000 in
set_option maxRecDepth 100000 in
theorem mainWords_crash (a : Int) (r l : ByteArray) (na nb : Nat) (xkeep : List Int) (A B C : Option Addr) (c d e lo hi : Nat) (w : World) (hC : IntR w lo hi C xkeep.length xkeep) (hhi : hi ≤ w.heap.size) (hE : EnvIn w)
    (ha0 : -1 ≤ a) (ha1 : a ≤ 1700) (hk : xkeep.length ≤ 400) (h0 : ∀ j, j < xkeep.length → 0 ≤ xkeep.getD j 0) (hmax : ∀ z ∈ xkeep, z ≤ 9223372036854775807) :
    Calls Tryz.prog 32 #[.agg #[.int .i64 7, .int .i64 a, .string r, .string l, .slice A na c, .slice B nb d, .slice C xkeep.length e]] w fun e w' => (∃ v, e = .returned v ∧ OwnStrs w' w.heap.size 9 v (wCrash :: (a :: xkeep).map decW)) ∧ Below w.heap.size w w' := by
  have HSW := Lib.hid (fun W => siteWord_any 7 (by omega) (by omega) W)
  have HBK := Lib.hid (Blk.new w 30 #[.int .i64 7, .int .i64 a, .string r, .string l, .slice A na c, .slice B nb d, .slice C xkeep.length e])
  have hD := (Below.refl w.heap.size w).alloc (Nat.le_refl _) (.cells #[.int .i64 7, .int .i64 a, .string r, .string l, .slice A na c, .slice B nb d, .slice C xkeep.length e] 30)
  have hsz := alloc_size w (.cells #[.int .i64 7, .int .i64 a, .string r, .string l, .slice A na c, .slice B nb d, .slice C xkeep.length e] 30)
  have HC := Lib.hid (hC.below hD hhi)
  have HE := Lib.hid (hE.1.below hD)
  have HD := Lib.hid hD
  have hin : ∀ z ∈ a :: xkeep, -9223372036854775807 ≤ z ∧ z ≤ 9223372036854775807 := fun z hz => by
    rcases List.mem_cons.1 hz with e | hz
    · subst e; exact ⟨by omega, by omega⟩
    · obtain ⟨j, hj, e3⟩ := List.getElem_of_mem hz
      have h5 := h0 j hj
      rw [List.getD_eq_getElem?_getD, List.getElem?_eq_getElem hj] at h5
      have h6 : 0 ≤ z := by rw [← e3]; exact h5
      exact ⟨by omega, hmax z hz⟩
  have hls : (a :: xkeep).length = xkeep.length + 1 := rfl
  have HYS := Lib.hid (show [a] ++ xkeep = a :: xkeep from rfl)
  have HYL := Lib.hid (show [a].length + xkeep.length ≤ 1000000000 by show 1 + _ ≤ _; omega)
  generalize hys : a :: xkeep = ys at *
  have HG := Lib.hid (fun j (hj : j < ys.length) => hin (ys.getD j 0) (by rw [List.getD_eq_getElem?_getD, List.getElem?_eq_getElem hj]; exact List.getElem_mem _))
  have HTK := Lib.hid (fun j (hj : j < ys.length) => (show (wCrash :: (ys.take (j + 1)).map decW) = (wCrash :: (ys.take j).map decW) ++ [decW (ys.getD j 0)] by rw [take_one_more ys 0 j hj, List.map_append]; rfl))
  have HALL := Lib.hid (show (wCrash :: (ys.take ys.length).map decW) = wCrash :: ys.map decW by rw [List.take_length])
  clear hC hD hE h0 hmax hin hys
  go_enter Tryz.func32, Tryz.ntmps32
  go_wp2_with fail
  generalize w.alloc (.cells #[.int .i64 7, .int .i64 a, .string r, .string l, .slice A na c, .slice B nb d, .slice C xkeep.length e] 30) = w0 at *
  have hlt0 : w.heap.size < w0.heap.size := by omega
  refine (HSW.out _).mono ?_; rintro e1 w1 ⟨rfl, hb1⟩
  have hs1 := hb1.size
  have HB1 := Lib.hid hb1
  have hsL := alloc_size w1 (.cells #[.string (wordK 7)] 9)
  have hBL := HB1.out.alloc hs1 (.cells #[.string (wordK 7)] 9)
  have HBL := Lib.hid hBL
  have HRL := Lib.hid (show RowR Value.string ByteArray.empty (w1.alloc (.cells #[.string (wordK 7)] 9)) w1.heap.size (w1.alloc (.cells #[.string (wordK 7)] 9)).heap.size (some ⟨w1.heap.size, 0, none⟩) 1 [wordK 7] from OwnR.reads (d := ByteArray.empty) (OwnR.lit_ (enc := Value.string) w1 w1.heap.size 9 [wordK 7] (by show 1 ≤ _; omega) (Nat.le_refl _)))
  have HBKL := Lib.hid ((HBK.out.below hb1 hlt0).alloc (.cells #[.string (wordK 7)] 9))
  have HCL := Lib.hid (HC.out.below hBL (by omega))
  have c1 := (HBK.out.below hb1 hlt0).cell
  have HWK := Lib.hid (show wordK 7 = wCrash from rfl)
  have c2 := HBKL.out.cell
  clear hb1 hBL
  go_upto_region 9 with fail
  clear hsL
  generalize w1.alloc (.cells #[.string (wordK 7)] 9) = wL at *
  have hsW := HBL.out.size
  rw [HWK.out] at HRL
  have cL := HBKL.out.cell
  have cL2 := (HBKL.out.alloc (.cells #[.int .i64 a] 2)).cell
  have HO9 := Lib.hid (show OwnInts (wL.alloc (.cells #[.int .i64 a] 2)) wL.heap.size 2 (.slice (some ⟨wL.heap.size, 0, none⟩) 1 1) [a] from OwnR.lit_ (enc := Value.int .i64) wL wL.heap.size 2 [a] (by show 1 ≤ _; omega) (Nat.le_refl _))
  have HW9 := Lib.hid ((Below.refl wL.heap.size wL).alloc (Nat.le_refl _) (.cells #[.int .i64 a] 2))
  have HC9 := Lib.hid (HCL.out.below HW9.out (by omega))
  clear c1 c2
  go_wp2_with (first
    | fail
    | (at_builtin; refine wpList_appR (enc := Value.int .i64) (d := (0 : Int)) rfl (.tmp 31) (.tmp 33) 23 2 rfl Tryz.underlying23 rfl (by omega) (fun _ => rfl) infoInt64 _ wL.heap.size _ [a] xkeep rfl HO9.out C e _ _ rfl HC9.out HYL.out HW9.out.size ?_; intro v3 w3 hown3 hb3; rw [HYS.out] at hown3; obtain ⟨A3, c3, rfl⟩ := hown3.1))
  have hs3 := Nat.le_trans HW9.out.size hb3.size
  have HB3 := Lib.hid (HW9.out.trans hb3)
  have HR3 := Lib.hid (OwnR.reads (d := (0 : Int)) hown3)
  have HRL3 := Lib.hid ((HRL.out.below HB3.out (Nat.le_refl _)).more (Nat.le_refl _) hs3)
  have HB03 := Lib.hid (HBL.out.trans (HB3.out.mono HBL.out.size))
  have hs03 := HB03.out.size
  clear hown3 hb3 cL cL2
  go_loopw [3, 36] (fun v i wr => ∃ j : Nat, j ≤ ys.length ∧ i = .int .i64 j ∧ GrowsL Value.string wr w3.heap.size 9 (.slice (some ⟨w1.heap.size, 0, none⟩) 1 1) [wCrash] v (wCrash :: (ys.take j).map decW) ∧ Below w3.heap.size w3 wr) (fun _ i _ => ys.length - (intOf i).toNat)
  case atStart => exact ⟨0, Nat.zero_le _, rfl, .inr ⟨rfl, rfl⟩, Below.refl _ _⟩
  case round =>
    obtain ⟨j, hj, rfl, hown, hbr⟩ := hrel
    have hszr := hbr.size
    have HBR := Lib.hid hbr
    have HRr := HR3.out.below hbr (Nat.le_refl _)
    have HLr := Lib.hid (HRL3.out.below hbr (Nat.le_refl _))
    have hll : (wCrash :: (ys.take j).map decW).length ≤ 500 := by
      rw [List.length_cons, List.length_map, List.length_take]; omega
    clear hbr
    by_cases hlt : j < ys.length
    · obtain ⟨b, off, rfl, _, hbh, hcell⟩ := HRr.at_ hlt
      have i1 : (j : Int) < (ys.length : Int) := by omega
      have i0 : (0 : Int) ≤ (j : Int) := by omega
      have HN := Lib.hid (HTK.out j hlt)
      have hg := HG.out j hlt
      generalize ys.getD j 0 = Z at *
      generalize (wCrash :: (ys.take j).map decW) = L at *
      have HZ := Lib.hid (fun W h => decI_any Z hg.1 hg.2 W h)
      clear hg HRr
      go_wp2_with fail
      refine (HZ.out _ (HE.out.below (HB03.out.trans (HBR.out.mono hs03)))).mono ?_; rintro e5 w5 ⟨rfl, hb5⟩
      have hs5 : w3.heap.size ≤ w5.heap.size := Nat.le_trans hszr hb5.size
      have hown5 := hown.below hb5
      have HL5 := Lib.hid (HLr.out.below hb5 hszr)
      have HB5 := Lib.hid (HBR.out.trans (hb5.mono hszr))
      generalize decW Z = D at *
      clear hb5 hown
      go_wp2_with (first
        | fail
        | (at_builtin; refine wpList_app1L (enc := Value.string) (d := ByteArray.empty) rfl (.tmp 40) (.tmp 43) 22 9 rfl Tryz.underlying22 rfl (by omega) (fun _ => rfl) infoTxt w5 w3.heap.size _ 1 _ _ _ L D rfl hown5 HL5.out (by omega) rfl (by omega) hs5 ?_; intro v6 w6 hown6 hb6))
      go_roundw
      case rel => exact ⟨j + 1, by omega, by go_num, .inl (by rw [HN.out]; exact hown6), HB5.out.trans hb6⟩
      case measure => simp [intOf]; omega
    · have i1 : ¬ (j : Int) < (ys.length : Int) := by omega
      obtain rfl : j = ys.length := by omega
      go_wp2_with fail
      go_ret
      refine ⟨⟨_, rfl, ?_⟩, HD.out.trans ((HB03.out.trans (HBR.out.mono hs03)).mono (by omega))⟩
      rw [HALL.out] at hown
      rcases hown with h | ⟨h, _⟩
      · exact h.mono (by omega)
      · exfalso
        have h1 := congrArg List.length h
        rw [List.length_cons, List.length_map] at h1
        have h2 : [wCrash].length = 1 := rfl
        omega

theorem mainWords_any (x : Act) (v : Value) (lo hi : Nat) (w : World) (hx : ActR w lo hi v x) (hhi : hi ≤ w.heap.size) (hB : actB x = true) (hK : KeepMax x) (hE : EnvIn w) :
    Calls Tryz.prog 32 #[v] w fun e w' => (∃ v', e = .returned v' ∧ OwnStrs w' w.heap.size 9 v' (mainW x)) ∧ Below w.heap.size w w' := by
  rcases actB_cases hB with ⟨k1, _, _, _, _, h3, h4, h5, h6⟩ | ⟨hk, h1, h2⟩ | ⟨k7, h1, h2, h3, h4⟩
  · rw [mainW_job k1]
    exact mainWords_job x v lo hi w hx hhi k1 hE (by omega) h4 h5 h6
  · obtain ⟨A, c, B, d, C, e, rfl, _, _, _⟩ := hx
    rw [mainW_few hk]
    exact mainWords_few x.k x.a x.r x.l _ _ _ A B C c d e w hk h1 h2 hE
  · obtain ⟨A, c, B, d, C, e, rfl, _, _, hC⟩ := hx
    rw [mainW_crash k7, k7]
    exact mainWords_crash x.a x.r x.l _ _ x.keep A B C c d e lo hi w hC hhi hE h1 h2 h3 h4 hK
end Go.Proofs.YtcjaaknnfohllaaGreatDoor

/- The program's text of an operation of two sites walked: SitesActText. -/
namespace Go.Proofs.YtcjaaknnfohllaaGreatDoor
open Go.RowKit

theorem indexByte_sp (l : List UInt8) : decide (0 ≤ Lib.indexByte l 32) = !(l.all (· != 32)) := by
  induction l with
  | nil => rfl
  | cons b l ih =>
    have h1 : ∀ m : List UInt8, -1 ≤ Lib.indexByte m 32 := by
      intro m
      induction m with
      | nil => simp [Lib.indexByte]
      | cons b m ihm => unfold Lib.indexByte; split <;> (try split) <;> omega
    have h2 := h1 l
    rw [List.all_cons, Bool.not_and, ← ih]
    have eq : Lib.indexByte (b :: l) 32 = if b == 32 then 0 else if Lib.indexByte l 32 == -1 then -1 else Lib.indexByte l 32 + 1 := rfl
    rw [eq]
    by_cases hb : b = 32
    · subst hb; simp
    · rw [if_neg (by simpa using hb)]
      have hb' : (b != 32) = true := by simpa using hb
      rw [hb', Bool.not_true, Bool.false_or]
      split
      · rename_i h3
        have : Lib.indexByte l 32 = -1 := by simpa using h3
        rw [this]
      · rename_i h3
        have : Lib.indexByte l 32 ≠ -1 := by simpa using h3
        rw [decide_eq_decide]; omega

theorem hasSp_pays (w : World) : PredAt Tryz.prog 36 #[] Value.string (fun x : ByteArray => !noSp x) w := by
  intro W x hb
  unfold FnGives
  have HC := Lib.hid (fun W => Tryz.strings_Contains_one x 32 W)
  rw [indexByte_sp] at HC
  have HN := Lib.hid (show noSp x = x.data.toList.all (· != 32) from rfl)
  rw [← HN.out] at HC
  go_enter Tryz.func36, Tryz.ntmps36
  go_wp2_with fail
  refine (HC.out _).mono ?_; rintro e1 w1 ⟨rfl, rfl⟩
  go_wp2_with fail
  go_ret
  exact ⟨rfl, 0, rfl⟩
theorem any_sp (xs : List ByteArray) : (xs.any fun x => !noSp x) = !xs.all noSp := by
  induction xs with
  | nil => rfl
  | cons x xs ih => simp only [List.any_cons, List.all_cons, ih, Bool.not_and]
theorem spaces_own {w : World} {base : Nat} {v : Value} {xs : List ByteArray} (h : OwnStrs w base 9 v xs) (hx : xs.length ≤ 1000000) :
    Calls Tryz.prog 35 #[v, .func (.func 36) #[] #[]] w fun e w' => e = .returned (.bool (!xs.all noSp)) ∧ Below w.heap.size w w' := by
  obtain ⟨⟨A, c, rfl⟩, ho⟩ := h
  by_cases h0 : xs = []
  · subst h0
    exact (Tryz.slices_ContainsFunc_empty (α := ByteArray) A c (.func (.func 36) #[] #[]) w).mono fun e w' ⟨he, hw⟩ => ⟨he, hw ▸ Below.refl _ _⟩
  · have hp := List.length_pos_iff.2 h0
    obtain ⟨b, off, rfl, _, hb, hc⟩ := (RowR.of_own (enc := Value.string) (d := ByteArray.empty) ho).2 hp
    refine (Tryz.slices_ContainsFunc Value.string (fun x : ByteArray => !noSp x) 36 #[] (enters_of Tryz.func36 (by kernel_rfl) rfl) b off xs.length c xs w (hasSp_pays w) (Nat.le_refl _) (by omega)
        (fun j hj => by rw [hc j hj, List.getD_eq_getElem?_getD, List.getElem?_eq_getElem hj]; simp [hj])).mono ?_
    rintro e w1 ⟨rfl, q, rfl⟩
    exact ⟨by rw [← any_sp, List.take_length], below_drewN' _ _⟩

/-- append(out, x, y) in a region that draws. -/
theorem step_app2 {α : Type} {enc : α → Value} {P : Program} {ops : Array Oper} {o : Oper} {a : Go.Act} {K : Go.Act → World → Prop} {Q : Exit → Go.Act → World → Prop} {E : Prop} (hgd : o.guard = none) (s x : Operand) (t e : TypeId)
    (ho : o.op = .call { callee := .builtin .append, args := #[s, x], argTypes := #[t, t] }) (ht : P.underlying t = some (.slice e))
    {z : Value} {by_ : Nat} (hzz : z.cells.size = 1) (hby : by_ ≤ 16) (hone : ∀ x : α, (enc x).oneCell' = true) (hinfo : (P.info? e).map (fun i => (i.zero, i.size, i.bytes)) = some (some z, 1, by_))
    (w : World) (base : Nat) (v : Value) (xs : List α) (y y2 : α) (hs : a.eval s = v) (hown : OwnR enc w base e v xs)
    (hx : a.eval x = .slice (some ⟨w.heap.size, 0, none⟩) 2 2) (hlen : xs.length ≤ 1000000000) (hbase : base ≤ w.heap.size)
    (h : ∀ A' c' w', w'.ownsRow base e 1 (.slice A' (xs ++ [y, y2]).length c') (xs ++ [y, y2]).length ((xs ++ [y, y2]).map enc) → Below base w w' → K (a.put o.dst (.slice A' (xs ++ [y, y2]).length c')) w') :
    if Region.wanted o (yielded ops a.tmps) = true then Oper.wp P o a (w.alloc (.cells #[enc y, enc y2] e)) K Q else E := by
  have hw : Region.wanted o (yielded ops a.tmps) = true := by simp [Region.wanted, hgd]
  rw [if_pos hw]
  obtain ⟨i0, hi0, hz0, hz1, hz2⟩ := info_parts hinfo
  refine wp_append_own _ s x t ho base e i0 _ 1 by_ ht hi0 hz0 hz1 hz2 hzz (by decide) v xs.length (xs.map enc) hs (hown.2.alloc _) ⟨w.heap.size, 0, none⟩ 2 2 [enc y, enc y2] hx rfl ?_ ?_ (by unfold maxLen; omega) (Nat.le_trans (Nat.mul_le_mul_left _ hby) (by omega)) (by simp; omega) ?_
  · intro j u hj
    match j, hj with
    | 0, hj => simp at hj; subst hj; simp [Addr.add]
    | 1, hj => simp at hj; subst hj; simp [Addr.add]
  · intro u hu
    simp at hu
    rcases hu with rfl | rfl
    · exact hone y
    · exact hone y2
  · intro v' w' h1 h2 _
    have hB : Below base w w' := ((Below.refl base w).alloc hbase _).grown h2 (by simp; omega) (fun k hk => by
      have := hown.2.lt k hk
      omega)
    have e3 : (xs ++ [y, y2]).length = xs.length + 2 := by simp
    rcases h1.2 with ⟨e1, e2⟩ | ⟨g, cap, cur, e1, _⟩
    · omega
    · subst e1
      have h9 := h (some ⟨g, 0, none⟩) cap w' (by rw [e3, List.map_append]; exact h1) hB
      rw [e3] at h9
      exact h9

set_option maxHeartbeats 8000000 in
set_option maxRecDepth 100000 in
theorem implSitesActText_any (x : Act) (kind at_ : Int) (v : Value) (lo hi : Nat) (w : World) (hx : SActR w lo hi v kind at_ x) (hhi : hi ≤ w.heap.size) (hs : ActSmall x) (hK : KeepMax x) (hE : EnvIn w) :
    Calls Tryz.prog 10 #[v] w fun e w' => e = .returned (.string ⟨(sitesT kind at_ x).toArray⟩) ∧ Below w.heap.size w w' := by
  have hx0 := hx
  obtain ⟨A, c, B, d, C, e, rfl, hA, hB, hC⟩ := hx
  generalize hcs : (#[.int .i64 kind, .int .i64 at_, .int .i64 x.k, .int .i64 x.a, .string x.r, .string x.l, .slice A x.args.length c, .slice B x.input.length d, .slice C x.keep.length e] : Array Value) = cs at *
  have hbo := (Below.refl w.heap.size w).alloc (Nat.le_refl _) (.cells cs 32)
  have hsz : (w.alloc (.cells cs 32)).heap.size = w.heap.size + 1 := by simp
  have HBK := Lib.hid (Blk.new w 32 cs)
  have HX0 := Lib.hid (hx0.below hbo hhi)
  have HD := Lib.hid hbo
  have HC := Lib.hid (implSitesActOk_any x kind at_ _ lo hi _ HX0.out (by omega) hs)
  have HE := Lib.hid (hE.below hbo)
  have HA0 := Lib.hid (show ∀ W, Below w.heap.size w W → ActR W lo hi (.agg #[.int .i64 x.k, .int .i64 x.a, .string x.r, .string x.l, .slice A x.args.length c, .slice B x.input.length d, .slice C x.keep.length e]) x from fun W hb => ⟨A, c, B, d, C, e, rfl, hA.below hb hhi, hB.below hb hhi, hC.below hb hhi⟩)
  clear hA hB hC hbo hx0 hE
  subst hcs
  cases hS : sitesB kind at_ x
  · rw [hS] at HC
    have HR := Lib.hid (show sitesT kind at_ x = [] by unfold sitesT; rw [hS]; rfl)
    rw [HR.out]
    clear hS
    go_enter Tryz.func10, Tryz.ntmps10
    go_wp2_with fail
    refine HC.out.mono ?_; rintro e1 w1 ⟨rfl, hb1⟩
    go_wp2_with fail
    go_ret
    exact ⟨rfl, HD.out.trans (hb1.mono HD.out.size)⟩
  · rw [hS] at HC
    have HR := Lib.hid (show sitesT kind at_ x = if (sitesW kind at_ x).all noSp then joinW (sitesW kind at_ x) else [] from if_pos hS)
    rw [HR.out]
    have hsm := sitesW_small hS hK
    have HSM := Lib.hid hsm.2
    have hn := hsm.1
    have HJL := Lib.hid (joinW_len (sitesW kind at_ x) hsm.2 _ (Nat.le_refl _))
    rw [List.take_length] at HJL
    clear hsm HR
    rcases sitesB_cases hS with ⟨rfl, hB1⟩ | ⟨hk, h1, h2⟩ | hk
    · have HM := Lib.hid (fun W hb he => mainWords_any x _ lo hi W (HA0.out W hb) (Nat.le_trans hhi hb.size) hB1 hK he)
      have HSW := Lib.hid (show sitesW 1 at_ x = mainW x from if_pos rfl)
      rw [HSW.out] at hn HSM HJL ⊢
      clear hS hB1 hK HSW
      generalize mainW x = L at *
      generalize hTT : (if L.all noSp then joinW L else []) = TT at *
      have HTT := Lib.hid hTT
      clear hTT
      go_enter Tryz.func10, Tryz.ntmps10
      go_wp2_with fail
      generalize w.alloc (.cells #[.int .i64 1, .int .i64 at_, .int .i64 x.k, .int .i64 x.a, .string x.r, .string x.l, .slice A x.args.length c, .slice B x.input.length d, .slice C x.keep.length e] 32) = w0 at *
      have hlt0 : w.heap.size < w0.heap.size := by omega
      refine HC.out.mono ?_; rintro e1 w1 ⟨rfl, hb1⟩
      have hs1 := hb1.size
      have HB1 := Lib.hid hb1
      have c1 := (HBK.out.below hb1 hlt0).cell
      have c2 := ((HBK.out.below hb1 hlt0).alloc (.cells #[] 9)).cell
      have HO := Lib.hid (OwnR.none_ (enc := Value.string) w1 w0.heap.size 9 hs1)
      have HBN := Lib.hid (HB1.out.alloc hs1 (.cells #[] 9))
      have HBKN := Lib.hid ((HBK.out.below hb1 hlt0).alloc (.cells #[] 9))
      clear hb1 HC
      go_wp2_with fail
      refine (HM.out _ (HD.out.trans (HBN.out.mono (by omega))) (HE.out.below HBN.out)).mono ?_; rintro e2 wz ⟨⟨v2, rfl, hv2⟩, hb2⟩
      obtain ⟨A2, c2', rfl⟩ := hv2.1
      have HOZ := Lib.hid (hv2.mono HBN.out.size)
      have HBZ := Lib.hid (HBN.out.trans (hb2.mono HBN.out.size))
      clear hb2 hv2 c1 c2
      have hbz := HBZ.out
      have hsz2 := hbz.size
      cases hsp : L.all noSp
      · have HCF := Lib.hid (spaces_own HOZ.out (by omega))
        have HF := Lib.hid (show TT = [] by rw [← HTT.out, hsp]; rfl)
        rw [hsp] at HCF
        clear hsp hbz
        go_wp2_with fail
        refine HCF.out.mono ?_; rintro e8 w8 ⟨rfl, hb8⟩
        go_wp2_with fail
        go_ret
        exact ⟨by rw [HF.out]; rfl, HD.out.trans ((HBZ.out.trans (hb8.mono hsz2)).mono (by omega))⟩
      · have HCF := Lib.hid (spaces_own HOZ.out (by omega))
        have HJN := Lib.hid (fun W (hb : Below wz.heap.size wz W) => join_own (HOZ.out.below hb) (by omega) ⟨#[32]⟩ (by have hjl := HJL.out; show (joinW L).length ≤ _; omega))
        have HJE := Lib.hid (show Lib.join (L.map (·.data.toList)) (⟨#[32]⟩ : ByteArray).data.toList = joinW L from rfl)
        rw [HJE.out] at HJN
        have HF := Lib.hid (show TT = joinW L by rw [← HTT.out, hsp]; rfl)
        rw [hsp] at HCF
        clear hsp hbz HJL
        go_wp2_with fail
        refine HCF.out.mono ?_; rintro e8 w8 ⟨rfl, hb8⟩
        have HB8 := Lib.hid hb8
        clear hb8
        go_wp2_with fail
        refine (HJN.out _ HB8.out).mono ?_; rintro e9 w9 ⟨rfl, hb9⟩
        go_wp2_with fail
        go_ret
        exact ⟨by rw [HF.out]; rfl, HD.out.trans ((HBZ.out.trans ((HB8.out.trans (hb9.mono HB8.out.size)).mono hsz2)).mono (by omega))⟩
    · rcases hk with rfl | rfl | rfl
      · have HSW := Lib.hid (show sitesW 3 at_ x = [] ++ [wArrive, decW at_] from rfl)
        have HWD := Lib.hid (fun W => sitesWord_any 3 (by omega) (by omega) W)
        have HWE := Lib.hid (show wordS 3 = wArrive from rfl)
        have HDC := Lib.hid (fun W h => decI_any at_ (by omega) (by omega) W h)
        rw [HWE.out] at HWD
        rw [HSW.out] at hn HSM HJL ⊢
        clear hS hK HSW HWE
        generalize wArrive = X at *
        generalize decW at_ = Y at *
        generalize hTT : (if ([] ++ [X, Y]).all noSp then joinW ([] ++ [X, Y]) else []) = TT at *
        have HTT := Lib.hid hTT
        clear hTT
        go_enter Tryz.func10, Tryz.ntmps10
        go_wp2_with fail
        generalize w.alloc (.cells #[.int .i64 3, .int .i64 at_, .int .i64 x.k, .int .i64 x.a, .string x.r, .string x.l, .slice A x.args.length c, .slice B x.input.length d, .slice C x.keep.length e] 32) = w0 at *
        have hlt0 : w.heap.size < w0.heap.size := by omega
        refine HC.out.mono ?_; rintro e1 w1 ⟨rfl, hb1⟩
        have hs1 := hb1.size
        have HB1 := Lib.hid hb1
        have c1 := (HBK.out.below hb1 hlt0).cell
        have c2 := ((HBK.out.below hb1 hlt0).alloc (.cells #[] 9)).cell
        have HO := Lib.hid (OwnR.none_ (enc := Value.string) w1 w0.heap.size 9 hs1)
        have HBN := Lib.hid (HB1.out.alloc hs1 (.cells #[] 9))
        have HBKN := Lib.hid ((HBK.out.below hb1 hlt0).alloc (.cells #[] 9))
        clear hb1 HC
        go_upto_region 11 with fail
        clear c1 c2
        generalize w1.alloc (.cells #[] 9) = wN at *
        have cN := HBKN.out.cell
        refine wp_region_held_drew (S := fun w' => ∀ i, w'.cell? ⟨w.heap.size, i, none⟩ = (#[.int .i64 3, .int .i64 at_, .int .i64 x.k, .int .i64 x.a, .string x.r, .string x.l, .slice A x.args.length c, .slice B x.input.length d, .slice C x.keep.length e] : Array Value)[i]?) (by kernel_rfl) (HBKN.out.drewN 1).cell (fun hHeld => ?_)
        ((refine held_take 0 25 ?_ rfl (by kernel_rfl) (by kernel_rfl) (by kernel_rfl) rfl (fun _ _ _ _ h => h) rfl ?_ (by assumption) ?_); rotate_left; (intro w hSw; (try dsimp only at hSw); go_simp; (try (with_reducible rfl))); simp only [Act.put, List.setIfInBounds_toArray, List.set_cons_zero, List.set_cons_succ])
        ((refine held_take 1 26 ?_ rfl (by kernel_rfl) (by kernel_rfl) (by kernel_rfl) rfl (fun _ _ _ _ h => h) rfl ?_ (by assumption) ?_); rotate_left; (intro w hSw; (try dsimp only at hSw); go_simp; (try (with_reducible rfl))); simp only [Act.put, List.setIfInBounds_toArray, List.set_cons_zero, List.set_cons_succ])
        ((refine held_take 2 27 ?_ rfl (by kernel_rfl) (by kernel_rfl) (by kernel_rfl) rfl (fun _ _ _ _ h => h) rfl ?_ (by assumption) ?_); rotate_left; (intro w hSw; (try dsimp only at hSw); go_simp; (try (with_reducible rfl))); simp only [Act.put, List.setIfInBounds_toArray, List.set_cons_zero, List.set_cons_succ])
        ((refine held_take 4 29 ?_ rfl (by kernel_rfl) (by kernel_rfl) (by kernel_rfl) rfl (fun _ _ _ _ h => h) rfl ?_ (by assumption) ?_); rotate_left; (intro w hSw; (try dsimp only at hSw); go_simp; (try (with_reducible rfl))); simp only [Act.put, List.setIfInBounds_toArray, List.set_cons_zero, List.set_cons_succ])
        ((refine held_take 5 30 ?_ rfl (by kernel_rfl) (by kernel_rfl) (by kernel_rfl) rfl (fun _ _ _ _ h => h) rfl ?_ (by assumption) ?_); rotate_left; (intro w hSw; (try dsimp only at hSw); go_simp; (try (with_reducible rfl))); simp only [Act.put, List.setIfInBounds_toArray, List.set_cons_zero, List.set_cons_succ])
        ((refine wpAnyH_ready (rs := [3]) (by kernel_rfl) (by simp) ?_); (refine AllReadyH.cons rfl (fun K hK => ?_) AllReadyH.nil); go_simp)
        refine (HWD.out _).mono ?_; rintro e3 w3 ⟨rfl, hb3⟩
        have hbN : Below w0.heap.size w0 (wN.drewN 1) := HBN.out.drew
        have hs3 : w0.heap.size ≤ w3.heap.size := Nat.le_trans hbN.size hb3.size
        have HBK3 := Lib.hid ((HBKN.out.drewN 1).below hb3 (Nat.lt_of_lt_of_le hlt0 hbN.size))
        have HO3 := Lib.hid ((show OwnStrs (wN.drewN 1) w0.heap.size 9 (.slice (some ⟨w1.heap.size, 0, none⟩) 0 0) [] from HO.out).below hb3)
        have HB3 := Lib.hid (hbN.trans (hb3.mono hbN.size))
        clear hb3 hbN HO cN
        refine hK.out _ _ HBK3.out.cell (fun hHeld => ?_)
        clear hK K
        (try simp only [Go.Act.put, List.setIfInBounds_toArray, List.set_cons_zero, List.set_cons_succ])
        ((refine wpAnyH_ready (rs := [6]) (by kernel_rfl) (by simp) ?_); (refine AllReadyH.cons rfl (fun K hK => ?_) AllReadyH.nil); go_simp)
        refine (HDC.out _ (HE.out.1.below HB3.out)).mono ?_; rintro e6 w6 ⟨rfl, hb6⟩
        have hs6 : w0.heap.size ≤ w6.heap.size := Nat.le_trans hs3 hb6.size
        have HBK6 := Lib.hid (HBK3.out.below hb6 (Nat.lt_of_lt_of_le hlt0 hs3))
        have HO6 := Lib.hid (HO3.out.below hb6)
        have HB6 := Lib.hid (HB3.out.trans (hb6.mono hs3))
        clear hb6 HO3
        refine hK.out _ _ HBK6.out.cell (fun hHeld => ?_)
        clear hK K
        (try simp only [Go.Act.put, List.setIfInBounds_toArray, List.set_cons_zero, List.set_cons_succ])
        ((refine wpAnyH_ready (rs := [7]) (by kernel_rfl) (by simp) ?_); (refine AllReadyH.cons rfl (fun K hK => ?_) AllReadyH.nil); go_simp)
        refine hK.out _ _ (HBK6.out.alloc _).cell (fun hHeld => ?_)
        clear hK K
        (try simp only [Go.Act.put, List.setIfInBounds_toArray, List.set_cons_zero, List.set_cons_succ])
        refine wpAnyH_ready (rs := [8]) (by kernel_rfl) (by simp) ?_
        refine AllReadyH.cons rfl (fun K hK => ?_) AllReadyH.nil
        refine step_app2 (enc := Value.string) (by rfl) (.tmp 25) (.tmp 32) 22 9 (by rfl) Tryz.underlying22 rfl (by omega) (fun _ => rfl) infoTxt w6 w0.heap.size _ [] X Y (by rfl) HO6.out (by rfl) (by show 0 ≤ _; omega) hs6 ?_
        intro A3 c3 wz hr8 hb8
        have HOZ := Lib.hid (show OwnStrs wz w0.heap.size 9 (.slice A3 2 c3) ([] ++ [X, Y]) from ⟨⟨_, _, rfl⟩, hr8⟩)
        have HBZ := Lib.hid (HB6.out.trans hb8)
        refine hK.out _ _ (HBK6.out.below hb8 hlt0).cell (fun hHeld => ?_)
        clear hK K hr8 hb8
        (try simp only [Go.Act.put, List.setIfInBounds_toArray, List.set_cons_zero, List.set_cons_succ])
        ((refine held_take 9 3 ?_ rfl (by kernel_rfl) (by kernel_rfl) (by kernel_rfl) rfl (fun _ _ _ _ h => h) rfl ?_ (by assumption) ?_); rotate_left; (intro w hSw; (try dsimp only at hSw); go_simp; (try (with_reducible rfl))); simp only [Act.put, List.setIfInBounds_toArray, List.set_cons_zero, List.set_cons_succ])
        refine wpAnyH_done (by kernel_rfl) ?_ _
        generalize hL : ([] ++ [X, Y] : List ByteArray) = L at *
        clear hHeld hL
        have hbz := HBZ.out
        have hsz2 := hbz.size
        cases hsp : L.all noSp
        · have HCF := Lib.hid (spaces_own HOZ.out (by omega))
          have HF := Lib.hid (show TT = [] by rw [← HTT.out, hsp]; rfl)
          rw [hsp] at HCF
          clear hsp hbz
          go_wp2_with fail
          refine HCF.out.mono ?_; rintro e8 w8 ⟨rfl, hb8⟩
          go_wp2_with fail
          go_ret
          exact ⟨by rw [HF.out]; rfl, HD.out.trans ((HBZ.out.trans (hb8.mono hsz2)).mono (by omega))⟩
        · have HCF := Lib.hid (spaces_own HOZ.out (by omega))
          have HJN := Lib.hid (fun W (hb : Below wz.heap.size wz W) => join_own (HOZ.out.below hb) (by omega) ⟨#[32]⟩ (by have hjl := HJL.out; show (joinW L).length ≤ _; omega))
          have HJE := Lib.hid (show Lib.join (L.map (·.data.toList)) (⟨#[32]⟩ : ByteArray).data.toList = joinW L from rfl)
          rw [HJE.out] at HJN
          have HF := Lib.hid (show TT = joinW L by rw [← HTT.out, hsp]; rfl)
          rw [hsp] at HCF
          clear hsp hbz HJL
          go_wp2_with fail
          refine HCF.out.mono ?_; rintro e8 w8 ⟨rfl, hb8⟩
          have HB8 := Lib.hid hb8
          clear hb8
          go_wp2_with fail
          refine (HJN.out _ HB8.out).mono ?_; rintro e9 w9 ⟨rfl, hb9⟩
          go_wp2_with fail
          go_ret
          exact ⟨by rw [HF.out]; rfl, HD.out.trans ((HBZ.out.trans ((HB8.out.trans (hb9.mono HB8.out.size)).mono hsz2)).mono (by omega))⟩
      · have HSW := Lib.hid (show sitesW 4 at_ x = [] ++ [wLose, decW at_] from rfl)
        have HWD := Lib.hid (fun W => sitesWord_any 4 (by omega) (by omega) W)
        have HWE := Lib.hid (show wordS 4 = wLose from rfl)
        have HDC := Lib.hid (fun W h => decI_any at_ (by omega) (by omega) W h)
        rw [HWE.out] at HWD
        rw [HSW.out] at hn HSM HJL ⊢
        clear hS hK HSW HWE
        generalize wLose = X at *
        generalize decW at_ = Y at *
        generalize hTT : (if ([] ++ [X, Y]).all noSp then joinW ([] ++ [X, Y]) else []) = TT at *
        have HTT := Lib.hid hTT
        clear hTT
        go_enter Tryz.func10, Tryz.ntmps10
        go_wp2_with fail
        generalize w.alloc (.cells #[.int .i64 4, .int .i64 at_, .int .i64 x.k, .int .i64 x.a, .string x.r, .string x.l, .slice A x.args.length c, .slice B x.input.length d, .slice C x.keep.length e] 32) = w0 at *
        have hlt0 : w.heap.size < w0.heap.size := by omega
        refine HC.out.mono ?_; rintro e1 w1 ⟨rfl, hb1⟩
        have hs1 := hb1.size
        have HB1 := Lib.hid hb1
        have c1 := (HBK.out.below hb1 hlt0).cell
        have c2 := ((HBK.out.below hb1 hlt0).alloc (.cells #[] 9)).cell
        have HO := Lib.hid (OwnR.none_ (enc := Value.string) w1 w0.heap.size 9 hs1)
        have HBN := Lib.hid (HB1.out.alloc hs1 (.cells #[] 9))
        have HBKN := Lib.hid ((HBK.out.below hb1 hlt0).alloc (.cells #[] 9))
        clear hb1 HC
        go_upto_region 11 with fail
        clear c1 c2
        generalize w1.alloc (.cells #[] 9) = wN at *
        have cN := HBKN.out.cell
        refine wp_region_held_drew (S := fun w' => ∀ i, w'.cell? ⟨w.heap.size, i, none⟩ = (#[.int .i64 4, .int .i64 at_, .int .i64 x.k, .int .i64 x.a, .string x.r, .string x.l, .slice A x.args.length c, .slice B x.input.length d, .slice C x.keep.length e] : Array Value)[i]?) (by kernel_rfl) (HBKN.out.drewN 1).cell (fun hHeld => ?_)
        ((refine held_take 0 25 ?_ rfl (by kernel_rfl) (by kernel_rfl) (by kernel_rfl) rfl (fun _ _ _ _ h => h) rfl ?_ (by assumption) ?_); rotate_left; (intro w hSw; (try dsimp only at hSw); go_simp; (try (with_reducible rfl))); simp only [Act.put, List.setIfInBounds_toArray, List.set_cons_zero, List.set_cons_succ])
        ((refine held_take 1 26 ?_ rfl (by kernel_rfl) (by kernel_rfl) (by kernel_rfl) rfl (fun _ _ _ _ h => h) rfl ?_ (by assumption) ?_); rotate_left; (intro w hSw; (try dsimp only at hSw); go_simp; (try (with_reducible rfl))); simp only [Act.put, List.setIfInBounds_toArray, List.set_cons_zero, List.set_cons_succ])
        ((refine held_take 2 27 ?_ rfl (by kernel_rfl) (by kernel_rfl) (by kernel_rfl) rfl (fun _ _ _ _ h => h) rfl ?_ (by assumption) ?_); rotate_left; (intro w hSw; (try dsimp only at hSw); go_simp; (try (with_reducible rfl))); simp only [Act.put, List.setIfInBounds_toArray, List.set_cons_zero, List.set_cons_succ])
        ((refine held_take 4 29 ?_ rfl (by kernel_rfl) (by kernel_rfl) (by kernel_rfl) rfl (fun _ _ _ _ h => h) rfl ?_ (by assumption) ?_); rotate_left; (intro w hSw; (try dsimp only at hSw); go_simp; (try (with_reducible rfl))); simp only [Act.put, List.setIfInBounds_toArray, List.set_cons_zero, List.set_cons_succ])
        ((refine held_take 5 30 ?_ rfl (by kernel_rfl) (by kernel_rfl) (by kernel_rfl) rfl (fun _ _ _ _ h => h) rfl ?_ (by assumption) ?_); rotate_left; (intro w hSw; (try dsimp only at hSw); go_simp; (try (with_reducible rfl))); simp only [Act.put, List.setIfInBounds_toArray, List.set_cons_zero, List.set_cons_succ])
        ((refine wpAnyH_ready (rs := [3]) (by kernel_rfl) (by simp) ?_); (refine AllReadyH.cons rfl (fun K hK => ?_) AllReadyH.nil); go_simp)
        refine (HWD.out _).mono ?_; rintro e3 w3 ⟨rfl, hb3⟩
        have hbN : Below w0.heap.size w0 (wN.drewN 1) := HBN.out.drew
        have hs3 : w0.heap.size ≤ w3.heap.size := Nat.le_trans hbN.size hb3.size
        have HBK3 := Lib.hid ((HBKN.out.drewN 1).below hb3 (Nat.lt_of_lt_of_le hlt0 hbN.size))
        have HO3 := Lib.hid ((show OwnStrs (wN.drewN 1) w0.heap.size 9 (.slice (some ⟨w1.heap.size, 0, none⟩) 0 0) [] from HO.out).below hb3)
        have HB3 := Lib.hid (hbN.trans (hb3.mono hbN.size))
        clear hb3 hbN HO cN
        refine hK.out _ _ HBK3.out.cell (fun hHeld => ?_)
        clear hK K
        (try simp only [Go.Act.put, List.setIfInBounds_toArray, List.set_cons_zero, List.set_cons_succ])
        ((refine wpAnyH_ready (rs := [6]) (by kernel_rfl) (by simp) ?_); (refine AllReadyH.cons rfl (fun K hK => ?_) AllReadyH.nil); go_simp)
        refine (HDC.out _ (HE.out.1.below HB3.out)).mono ?_; rintro e6 w6 ⟨rfl, hb6⟩
        have hs6 : w0.heap.size ≤ w6.heap.size := Nat.le_trans hs3 hb6.size
        have HBK6 := Lib.hid (HBK3.out.below hb6 (Nat.lt_of_lt_of_le hlt0 hs3))
        have HO6 := Lib.hid (HO3.out.below hb6)
        have HB6 := Lib.hid (HB3.out.trans (hb6.mono hs3))
        clear hb6 HO3
        refine hK.out _ _ HBK6.out.cell (fun hHeld => ?_)
        clear hK K
        (try simp only [Go.Act.put, List.setIfInBounds_toArray, List.set_cons_zero, List.set_cons_succ])
        ((refine wpAnyH_ready (rs := [7]) (by kernel_rfl) (by simp) ?_); (refine AllReadyH.cons rfl (fun K hK => ?_) AllReadyH.nil); go_simp)
        refine hK.out _ _ (HBK6.out.alloc _).cell (fun hHeld => ?_)
        clear hK K
        (try simp only [Go.Act.put, List.setIfInBounds_toArray, List.set_cons_zero, List.set_cons_succ])
        refine wpAnyH_ready (rs := [8]) (by kernel_rfl) (by simp) ?_
        refine AllReadyH.cons rfl (fun K hK => ?_) AllReadyH.nil
        refine step_app2 (enc := Value.string) (by rfl) (.tmp 25) (.tmp 32) 22 9 (by rfl) Tryz.underlying22 rfl (by omega) (fun _ => rfl) infoTxt w6 w0.heap.size _ [] X Y (by rfl) HO6.out (by rfl) (by show 0 ≤ _; omega) hs6 ?_
        intro A3 c3 wz hr8 hb8
        have HOZ := Lib.hid (show OwnStrs wz w0.heap.size 9 (.slice A3 2 c3) ([] ++ [X, Y]) from ⟨⟨_, _, rfl⟩, hr8⟩)
        have HBZ := Lib.hid (HB6.out.trans hb8)
        refine hK.out _ _ (HBK6.out.below hb8 hlt0).cell (fun hHeld => ?_)
        clear hK K hr8 hb8
        (try simp only [Go.Act.put, List.setIfInBounds_toArray, List.set_cons_zero, List.set_cons_succ])
        ((refine held_take 9 3 ?_ rfl (by kernel_rfl) (by kernel_rfl) (by kernel_rfl) rfl (fun _ _ _ _ h => h) rfl ?_ (by assumption) ?_); rotate_left; (intro w hSw; (try dsimp only at hSw); go_simp; (try (with_reducible rfl))); simp only [Act.put, List.setIfInBounds_toArray, List.set_cons_zero, List.set_cons_succ])
        refine wpAnyH_done (by kernel_rfl) ?_ _
        generalize hL : ([] ++ [X, Y] : List ByteArray) = L at *
        clear hHeld hL
        have hbz := HBZ.out
        have hsz2 := hbz.size
        cases hsp : L.all noSp
        · have HCF := Lib.hid (spaces_own HOZ.out (by omega))
          have HF := Lib.hid (show TT = [] by rw [← HTT.out, hsp]; rfl)
          rw [hsp] at HCF
          clear hsp hbz
          go_wp2_with fail
          refine HCF.out.mono ?_; rintro e8 w8 ⟨rfl, hb8⟩
          go_wp2_with fail
          go_ret
          exact ⟨by rw [HF.out]; rfl, HD.out.trans ((HBZ.out.trans (hb8.mono hsz2)).mono (by omega))⟩
        · have HCF := Lib.hid (spaces_own HOZ.out (by omega))
          have HJN := Lib.hid (fun W (hb : Below wz.heap.size wz W) => join_own (HOZ.out.below hb) (by omega) ⟨#[32]⟩ (by have hjl := HJL.out; show (joinW L).length ≤ _; omega))
          have HJE := Lib.hid (show Lib.join (L.map (·.data.toList)) (⟨#[32]⟩ : ByteArray).data.toList = joinW L from rfl)
          rw [HJE.out] at HJN
          have HF := Lib.hid (show TT = joinW L by rw [← HTT.out, hsp]; rfl)
          rw [hsp] at HCF
          clear hsp hbz HJL
          go_wp2_with fail
          refine HCF.out.mono ?_; rintro e8 w8 ⟨rfl, hb8⟩
          have HB8 := Lib.hid hb8
          clear hb8
          go_wp2_with fail
          refine (HJN.out _ HB8.out).mono ?_; rintro e9 w9 ⟨rfl, hb9⟩
          go_wp2_with fail
          go_ret
          exact ⟨by rw [HF.out]; rfl, HD.out.trans ((HBZ.out.trans ((HB8.out.trans (hb9.mono HB8.out.size)).mono hsz2)).mono (by omega))⟩
      · have HSW := Lib.hid (show sitesW 5 at_ x = [] ++ [wTwice, decW at_] from rfl)
        have HWD := Lib.hid (fun W => sitesWord_any 5 (by omega) (by omega) W)
        have HWE := Lib.hid (show wordS 5 = wTwice from rfl)
        have HDC := Lib.hid (fun W h => decI_any at_ (by omega) (by omega) W h)
        rw [HWE.out] at HWD
        rw [HSW.out] at hn HSM HJL ⊢
        clear hS hK HSW HWE
        generalize wTwice = X at *
        generalize decW at_ = Y at *
        generalize hTT : (if ([] ++ [X, Y]).all noSp then joinW ([] ++ [X, Y]) else []) = TT at *
        have HTT := Lib.hid hTT
        clear hTT
        go_enter Tryz.func10, Tryz.ntmps10
        go_wp2_with fail
        generalize w.alloc (.cells #[.int .i64 5, .int .i64 at_, .int .i64 x.k, .int .i64 x.a, .string x.r, .string x.l, .slice A x.args.length c, .slice B x.input.length d, .slice C x.keep.length e] 32) = w0 at *
        have hlt0 : w.heap.size < w0.heap.size := by omega
        refine HC.out.mono ?_; rintro e1 w1 ⟨rfl, hb1⟩
        have hs1 := hb1.size
        have HB1 := Lib.hid hb1
        have c1 := (HBK.out.below hb1 hlt0).cell
        have c2 := ((HBK.out.below hb1 hlt0).alloc (.cells #[] 9)).cell
        have HO := Lib.hid (OwnR.none_ (enc := Value.string) w1 w0.heap.size 9 hs1)
        have HBN := Lib.hid (HB1.out.alloc hs1 (.cells #[] 9))
        have HBKN := Lib.hid ((HBK.out.below hb1 hlt0).alloc (.cells #[] 9))
        clear hb1 HC
        go_upto_region 11 with fail
        clear c1 c2
        generalize w1.alloc (.cells #[] 9) = wN at *
        have cN := HBKN.out.cell
        refine wp_region_held_drew (S := fun w' => ∀ i, w'.cell? ⟨w.heap.size, i, none⟩ = (#[.int .i64 5, .int .i64 at_, .int .i64 x.k, .int .i64 x.a, .string x.r, .string x.l, .slice A x.args.length c, .slice B x.input.length d, .slice C x.keep.length e] : Array Value)[i]?) (by kernel_rfl) (HBKN.out.drewN 1).cell (fun hHeld => ?_)
        ((refine held_take 0 25 ?_ rfl (by kernel_rfl) (by kernel_rfl) (by kernel_rfl) rfl (fun _ _ _ _ h => h) rfl ?_ (by assumption) ?_); rotate_left; (intro w hSw; (try dsimp only at hSw); go_simp; (try (with_reducible rfl))); simp only [Act.put, List.setIfInBounds_toArray, List.set_cons_zero, List.set_cons_succ])
        ((refine held_take 1 26 ?_ rfl (by kernel_rfl) (by kernel_rfl) (by kernel_rfl) rfl (fun _ _ _ _ h => h) rfl ?_ (by assumption) ?_); rotate_left; (intro w hSw; (try dsimp only at hSw); go_simp; (try (with_reducible rfl))); simp only [Act.put, List.setIfInBounds_toArray, List.set_cons_zero, List.set_cons_succ])
        ((refine held_take 2 27 ?_ rfl (by kernel_rfl) (by kernel_rfl) (by kernel_rfl) rfl (fun _ _ _ _ h => h) rfl ?_ (by assumption) ?_); rotate_left; (intro w hSw; (try dsimp only at hSw); go_simp; (try (with_reducible rfl))); simp only [Act.put, List.setIfInBounds_toArray, List.set_cons_zero, List.set_cons_succ])
        ((refine held_take 4 29 ?_ rfl (by kernel_rfl) (by kernel_rfl) (by kernel_rfl) rfl (fun _ _ _ _ h => h) rfl ?_ (by assumption) ?_); rotate_left; (intro w hSw; (try dsimp only at hSw); go_simp; (try (with_reducible rfl))); simp only [Act.put, List.setIfInBounds_toArray, List.set_cons_zero, List.set_cons_succ])
        ((refine held_take 5 30 ?_ rfl (by kernel_rfl) (by kernel_rfl) (by kernel_rfl) rfl (fun _ _ _ _ h => h) rfl ?_ (by assumption) ?_); rotate_left; (intro w hSw; (try dsimp only at hSw); go_simp; (try (with_reducible rfl))); simp only [Act.put, List.setIfInBounds_toArray, List.set_cons_zero, List.set_cons_succ])
        ((refine wpAnyH_ready (rs := [3]) (by kernel_rfl) (by simp) ?_); (refine AllReadyH.cons rfl (fun K hK => ?_) AllReadyH.nil); go_simp)
        refine (HWD.out _).mono ?_; rintro e3 w3 ⟨rfl, hb3⟩
        have hbN : Below w0.heap.size w0 (wN.drewN 1) := HBN.out.drew
        have hs3 : w0.heap.size ≤ w3.heap.size := Nat.le_trans hbN.size hb3.size
        have HBK3 := Lib.hid ((HBKN.out.drewN 1).below hb3 (Nat.lt_of_lt_of_le hlt0 hbN.size))
        have HO3 := Lib.hid ((show OwnStrs (wN.drewN 1) w0.heap.size 9 (.slice (some ⟨w1.heap.size, 0, none⟩) 0 0) [] from HO.out).below hb3)
        have HB3 := Lib.hid (hbN.trans (hb3.mono hbN.size))
        clear hb3 hbN HO cN
        refine hK.out _ _ HBK3.out.cell (fun hHeld => ?_)
        clear hK K
        (try simp only [Go.Act.put, List.setIfInBounds_toArray, List.set_cons_zero, List.set_cons_succ])
        ((refine wpAnyH_ready (rs := [6]) (by kernel_rfl) (by simp) ?_); (refine AllReadyH.cons rfl (fun K hK => ?_) AllReadyH.nil); go_simp)
        refine (HDC.out _ (HE.out.1.below HB3.out)).mono ?_; rintro e6 w6 ⟨rfl, hb6⟩
        have hs6 : w0.heap.size ≤ w6.heap.size := Nat.le_trans hs3 hb6.size
        have HBK6 := Lib.hid (HBK3.out.below hb6 (Nat.lt_of_lt_of_le hlt0 hs3))
        have HO6 := Lib.hid (HO3.out.below hb6)
        have HB6 := Lib.hid (HB3.out.trans (hb6.mono hs3))
        clear hb6 HO3
        refine hK.out _ _ HBK6.out.cell (fun hHeld => ?_)
        clear hK K
        (try simp only [Go.Act.put, List.setIfInBounds_toArray, List.set_cons_zero, List.set_cons_succ])
        ((refine wpAnyH_ready (rs := [7]) (by kernel_rfl) (by simp) ?_); (refine AllReadyH.cons rfl (fun K hK => ?_) AllReadyH.nil); go_simp)
        refine hK.out _ _ (HBK6.out.alloc _).cell (fun hHeld => ?_)
        clear hK K
        (try simp only [Go.Act.put, List.setIfInBounds_toArray, List.set_cons_zero, List.set_cons_succ])
        refine wpAnyH_ready (rs := [8]) (by kernel_rfl) (by simp) ?_
        refine AllReadyH.cons rfl (fun K hK => ?_) AllReadyH.nil
        refine step_app2 (enc := Value.string) (by rfl) (.tmp 25) (.tmp 32) 22 9 (by rfl) Tryz.underlying22 rfl (by omega) (fun _ => rfl) infoTxt w6 w0.heap.size _ [] X Y (by rfl) HO6.out (by rfl) (by show 0 ≤ _; omega) hs6 ?_
        intro A3 c3 wz hr8 hb8
        have HOZ := Lib.hid (show OwnStrs wz w0.heap.size 9 (.slice A3 2 c3) ([] ++ [X, Y]) from ⟨⟨_, _, rfl⟩, hr8⟩)
        have HBZ := Lib.hid (HB6.out.trans hb8)
        refine hK.out _ _ (HBK6.out.below hb8 hlt0).cell (fun hHeld => ?_)
        clear hK K hr8 hb8
        (try simp only [Go.Act.put, List.setIfInBounds_toArray, List.set_cons_zero, List.set_cons_succ])
        ((refine held_take 9 3 ?_ rfl (by kernel_rfl) (by kernel_rfl) (by kernel_rfl) rfl (fun _ _ _ _ h => h) rfl ?_ (by assumption) ?_); rotate_left; (intro w hSw; (try dsimp only at hSw); go_simp; (try (with_reducible rfl))); simp only [Act.put, List.setIfInBounds_toArray, List.set_cons_zero, List.set_cons_succ])
        refine wpAnyH_done (by kernel_rfl) ?_ _
        generalize hL : ([] ++ [X, Y] : List ByteArray) = L at *
        clear hHeld hL
        have hbz := HBZ.out
        have hsz2 := hbz.size
        cases hsp : L.all noSp
        · have HCF := Lib.hid (spaces_own HOZ.out (by omega))
          have HF := Lib.hid (show TT = [] by rw [← HTT.out, hsp]; rfl)
          rw [hsp] at HCF
          clear hsp hbz
          go_wp2_with fail
          refine HCF.out.mono ?_; rintro e8 w8 ⟨rfl, hb8⟩
          go_wp2_with fail
          go_ret
          exact ⟨by rw [HF.out]; rfl, HD.out.trans ((HBZ.out.trans (hb8.mono hsz2)).mono (by omega))⟩
        · have HCF := Lib.hid (spaces_own HOZ.out (by omega))
          have HJN := Lib.hid (fun W (hb : Below wz.heap.size wz W) => join_own (HOZ.out.below hb) (by omega) ⟨#[32]⟩ (by have hjl := HJL.out; show (joinW L).length ≤ _; omega))
          have HJE := Lib.hid (show Lib.join (L.map (·.data.toList)) (⟨#[32]⟩ : ByteArray).data.toList = joinW L from rfl)
          rw [HJE.out] at HJN
          have HF := Lib.hid (show TT = joinW L by rw [← HTT.out, hsp]; rfl)
          rw [hsp] at HCF
          clear hsp hbz HJL
          go_wp2_with fail
          refine HCF.out.mono ?_; rintro e8 w8 ⟨rfl, hb8⟩
          have HB8 := Lib.hid hb8
          clear hb8
          go_wp2_with fail
          refine (HJN.out _ HB8.out).mono ?_; rintro e9 w9 ⟨rfl, hb9⟩
          go_wp2_with fail
          go_ret
          exact ⟨by rw [HF.out]; rfl, HD.out.trans ((HBZ.out.trans ((HB8.out.trans (hb9.mono HB8.out.size)).mono hsz2)).mono (by omega))⟩
    · rcases hk with rfl | rfl | rfl
      · have HSW := Lib.hid (show sitesW 2 at_ x = [] ++ [wShip] from rfl)
        have HWD := Lib.hid (fun W => sitesWord_any 2 (by omega) (by omega) W)
        have HWE := Lib.hid (show wordS 2 = wShip from rfl)
        rw [HWE.out] at HWD
        rw [HSW.out] at hn HSM HJL ⊢
        clear hS hK HSW HWE
        generalize wShip = X at *
        generalize hTT : (if ([] ++ [X]).all noSp then joinW ([] ++ [X]) else []) = TT at *
        have HTT := Lib.hid hTT
        clear hTT
        go_enter Tryz.func10, Tryz.ntmps10
        go_wp2_with fail
        generalize w.alloc (.cells #[.int .i64 2, .int .i64 at_, .int .i64 x.k, .int .i64 x.a, .string x.r, .string x.l, .slice A x.args.length c, .slice B x.input.length d, .slice C x.keep.length e] 32) = w0 at *
        have hlt0 : w.heap.size < w0.heap.size := by omega
        refine HC.out.mono ?_; rintro e1 w1 ⟨rfl, hb1⟩
        have hs1 := hb1.size
        have HB1 := Lib.hid hb1
        have c1 := (HBK.out.below hb1 hlt0).cell
        have c2 := ((HBK.out.below hb1 hlt0).alloc (.cells #[] 9)).cell
        have HO := Lib.hid (OwnR.none_ (enc := Value.string) w1 w0.heap.size 9 hs1)
        have HBN := Lib.hid (HB1.out.alloc hs1 (.cells #[] 9))
        have HBKN := Lib.hid ((HBK.out.below hb1 hlt0).alloc (.cells #[] 9))
        clear hb1 HC
        go_wp2_with fail
        refine (HWD.out _).mono ?_; rintro e2 w2 ⟨rfl, hb2⟩
        have hs2 : w0.heap.size ≤ w2.heap.size := Nat.le_trans HBN.out.size hb2.size
        have hown2 := HO.out.below hb2
        have HB2 := Lib.hid (HBN.out.trans (hb2.mono HBN.out.size))
        clear hb2 c1 c2
        go_upto_region 12 with (first
          | fail
          | (at_builtin; refine wpList_app1 (enc := Value.string) rfl (.tmp 10) (.tmp 14) 22 9 rfl Tryz.underlying22 rfl (by omega) (fun _ => rfl) infoTxt w2 w0.heap.size _ [] X rfl hown2 rfl (by show 0 ≤ _; omega) hs2 ?_; intro v3 wz hown3 hb3))
        have HOZ := Lib.hid hown3
        have HBZ := Lib.hid (HB2.out.trans hb3)
        generalize hL : ([] ++ [X] : List ByteArray) = L at *
        obtain ⟨A3, c3, rfl⟩ := hown3.1
        clear hown3 hb3 hown2 hL
        have hbz := HBZ.out
        have hsz2 := hbz.size
        cases hsp : L.all noSp
        · have HCF := Lib.hid (spaces_own HOZ.out (by omega))
          have HF := Lib.hid (show TT = [] by rw [← HTT.out, hsp]; rfl)
          rw [hsp] at HCF
          clear hsp hbz
          go_wp2_with fail
          refine HCF.out.mono ?_; rintro e8 w8 ⟨rfl, hb8⟩
          go_wp2_with fail
          go_ret
          exact ⟨by rw [HF.out]; rfl, HD.out.trans ((HBZ.out.trans (hb8.mono hsz2)).mono (by omega))⟩
        · have HCF := Lib.hid (spaces_own HOZ.out (by omega))
          have HJN := Lib.hid (fun W (hb : Below wz.heap.size wz W) => join_own (HOZ.out.below hb) (by omega) ⟨#[32]⟩ (by have hjl := HJL.out; show (joinW L).length ≤ _; omega))
          have HJE := Lib.hid (show Lib.join (L.map (·.data.toList)) (⟨#[32]⟩ : ByteArray).data.toList = joinW L from rfl)
          rw [HJE.out] at HJN
          have HF := Lib.hid (show TT = joinW L by rw [← HTT.out, hsp]; rfl)
          rw [hsp] at HCF
          clear hsp hbz HJL
          go_wp2_with fail
          refine HCF.out.mono ?_; rintro e8 w8 ⟨rfl, hb8⟩
          have HB8 := Lib.hid hb8
          clear hb8
          go_wp2_with fail
          refine (HJN.out _ HB8.out).mono ?_; rintro e9 w9 ⟨rfl, hb9⟩
          go_wp2_with fail
          go_ret
          exact ⟨by rw [HF.out]; rfl, HD.out.trans ((HBZ.out.trans ((HB8.out.trans (hb9.mono HB8.out.size)).mono hsz2)).mono (by omega))⟩
      · have HSW := Lib.hid (show sitesW 6 at_ x = [] ++ [wCopy] from rfl)
        have HWD := Lib.hid (fun W => sitesWord_any 6 (by omega) (by omega) W)
        have HWE := Lib.hid (show wordS 6 = wCopy from rfl)
        rw [HWE.out] at HWD
        rw [HSW.out] at hn HSM HJL ⊢
        clear hS hK HSW HWE
        generalize wCopy = X at *
        generalize hTT : (if ([] ++ [X]).all noSp then joinW ([] ++ [X]) else []) = TT at *
        have HTT := Lib.hid hTT
        clear hTT
        go_enter Tryz.func10, Tryz.ntmps10
        go_wp2_with fail
        generalize w.alloc (.cells #[.int .i64 6, .int .i64 at_, .int .i64 x.k, .int .i64 x.a, .string x.r, .string x.l, .slice A x.args.length c, .slice B x.input.length d, .slice C x.keep.length e] 32) = w0 at *
        have hlt0 : w.heap.size < w0.heap.size := by omega
        refine HC.out.mono ?_; rintro e1 w1 ⟨rfl, hb1⟩
        have hs1 := hb1.size
        have HB1 := Lib.hid hb1
        have c1 := (HBK.out.below hb1 hlt0).cell
        have c2 := ((HBK.out.below hb1 hlt0).alloc (.cells #[] 9)).cell
        have HO := Lib.hid (OwnR.none_ (enc := Value.string) w1 w0.heap.size 9 hs1)
        have HBN := Lib.hid (HB1.out.alloc hs1 (.cells #[] 9))
        have HBKN := Lib.hid ((HBK.out.below hb1 hlt0).alloc (.cells #[] 9))
        clear hb1 HC
        go_wp2_with fail
        refine (HWD.out _).mono ?_; rintro e2 w2 ⟨rfl, hb2⟩
        have hs2 : w0.heap.size ≤ w2.heap.size := Nat.le_trans HBN.out.size hb2.size
        have hown2 := HO.out.below hb2
        have HB2 := Lib.hid (HBN.out.trans (hb2.mono HBN.out.size))
        clear hb2 c1 c2
        go_upto_region 12 with (first
          | fail
          | (at_builtin; refine wpList_app1 (enc := Value.string) rfl (.tmp 10) (.tmp 14) 22 9 rfl Tryz.underlying22 rfl (by omega) (fun _ => rfl) infoTxt w2 w0.heap.size _ [] X rfl hown2 rfl (by show 0 ≤ _; omega) hs2 ?_; intro v3 wz hown3 hb3))
        have HOZ := Lib.hid hown3
        have HBZ := Lib.hid (HB2.out.trans hb3)
        generalize hL : ([] ++ [X] : List ByteArray) = L at *
        obtain ⟨A3, c3, rfl⟩ := hown3.1
        clear hown3 hb3 hown2 hL
        have hbz := HBZ.out
        have hsz2 := hbz.size
        cases hsp : L.all noSp
        · have HCF := Lib.hid (spaces_own HOZ.out (by omega))
          have HF := Lib.hid (show TT = [] by rw [← HTT.out, hsp]; rfl)
          rw [hsp] at HCF
          clear hsp hbz
          go_wp2_with fail
          refine HCF.out.mono ?_; rintro e8 w8 ⟨rfl, hb8⟩
          go_wp2_with fail
          go_ret
          exact ⟨by rw [HF.out]; rfl, HD.out.trans ((HBZ.out.trans (hb8.mono hsz2)).mono (by omega))⟩
        · have HCF := Lib.hid (spaces_own HOZ.out (by omega))
          have HJN := Lib.hid (fun W (hb : Below wz.heap.size wz W) => join_own (HOZ.out.below hb) (by omega) ⟨#[32]⟩ (by have hjl := HJL.out; show (joinW L).length ≤ _; omega))
          have HJE := Lib.hid (show Lib.join (L.map (·.data.toList)) (⟨#[32]⟩ : ByteArray).data.toList = joinW L from rfl)
          rw [HJE.out] at HJN
          have HF := Lib.hid (show TT = joinW L by rw [← HTT.out, hsp]; rfl)
          rw [hsp] at HCF
          clear hsp hbz HJL
          go_wp2_with fail
          refine HCF.out.mono ?_; rintro e8 w8 ⟨rfl, hb8⟩
          have HB8 := Lib.hid hb8
          clear hb8
          go_wp2_with fail
          refine (HJN.out _ HB8.out).mono ?_; rintro e9 w9 ⟨rfl, hb9⟩
          go_wp2_with fail
          go_ret
          exact ⟨by rw [HF.out]; rfl, HD.out.trans ((HBZ.out.trans ((HB8.out.trans (hb9.mono HB8.out.size)).mono hsz2)).mono (by omega))⟩
      · have HSW := Lib.hid (show sitesW 7 at_ x = [] ++ [wSwitch] from rfl)
        have HWD := Lib.hid (fun W => sitesWord_any 7 (by omega) (by omega) W)
        have HWE := Lib.hid (show wordS 7 = wSwitch from rfl)
        rw [HWE.out] at HWD
        rw [HSW.out] at hn HSM HJL ⊢
        clear hS hK HSW HWE
        generalize wSwitch = X at *
        generalize hTT : (if ([] ++ [X]).all noSp then joinW ([] ++ [X]) else []) = TT at *
        have HTT := Lib.hid hTT
        clear hTT
        go_enter Tryz.func10, Tryz.ntmps10
        go_wp2_with fail
        generalize w.alloc (.cells #[.int .i64 7, .int .i64 at_, .int .i64 x.k, .int .i64 x.a, .string x.r, .string x.l, .slice A x.args.length c, .slice B x.input.length d, .slice C x.keep.length e] 32) = w0 at *
        have hlt0 : w.heap.size < w0.heap.size := by omega
        refine HC.out.mono ?_; rintro e1 w1 ⟨rfl, hb1⟩
        have hs1 := hb1.size
        have HB1 := Lib.hid hb1
        have c1 := (HBK.out.below hb1 hlt0).cell
        have c2 := ((HBK.out.below hb1 hlt0).alloc (.cells #[] 9)).cell
        have HO := Lib.hid (OwnR.none_ (enc := Value.string) w1 w0.heap.size 9 hs1)
        have HBN := Lib.hid (HB1.out.alloc hs1 (.cells #[] 9))
        have HBKN := Lib.hid ((HBK.out.below hb1 hlt0).alloc (.cells #[] 9))
        clear hb1 HC
        go_wp2_with fail
        refine (HWD.out _).mono ?_; rintro e2 w2 ⟨rfl, hb2⟩
        have hs2 : w0.heap.size ≤ w2.heap.size := Nat.le_trans HBN.out.size hb2.size
        have hown2 := HO.out.below hb2
        have HB2 := Lib.hid (HBN.out.trans (hb2.mono HBN.out.size))
        clear hb2 c1 c2
        go_upto_region 12 with (first
          | fail
          | (at_builtin; refine wpList_app1 (enc := Value.string) rfl (.tmp 10) (.tmp 14) 22 9 rfl Tryz.underlying22 rfl (by omega) (fun _ => rfl) infoTxt w2 w0.heap.size _ [] X rfl hown2 rfl (by show 0 ≤ _; omega) hs2 ?_; intro v3 wz hown3 hb3))
        have HOZ := Lib.hid hown3
        have HBZ := Lib.hid (HB2.out.trans hb3)
        generalize hL : ([] ++ [X] : List ByteArray) = L at *
        obtain ⟨A3, c3, rfl⟩ := hown3.1
        clear hown3 hb3 hown2 hL
        have hbz := HBZ.out
        have hsz2 := hbz.size
        cases hsp : L.all noSp
        · have HCF := Lib.hid (spaces_own HOZ.out (by omega))
          have HF := Lib.hid (show TT = [] by rw [← HTT.out, hsp]; rfl)
          rw [hsp] at HCF
          clear hsp hbz
          go_wp2_with fail
          refine HCF.out.mono ?_; rintro e8 w8 ⟨rfl, hb8⟩
          go_wp2_with fail
          go_ret
          exact ⟨by rw [HF.out]; rfl, HD.out.trans ((HBZ.out.trans (hb8.mono hsz2)).mono (by omega))⟩
        · have HCF := Lib.hid (spaces_own HOZ.out (by omega))
          have HJN := Lib.hid (fun W (hb : Below wz.heap.size wz W) => join_own (HOZ.out.below hb) (by omega) ⟨#[32]⟩ (by have hjl := HJL.out; show (joinW L).length ≤ _; omega))
          have HJE := Lib.hid (show Lib.join (L.map (·.data.toList)) (⟨#[32]⟩ : ByteArray).data.toList = joinW L from rfl)
          rw [HJE.out] at HJN
          have HF := Lib.hid (show TT = joinW L by rw [← HTT.out, hsp]; rfl)
          rw [hsp] at HCF
          clear hsp hbz HJL
          go_wp2_with fail
          refine HCF.out.mono ?_; rintro e8 w8 ⟨rfl, hb8⟩
          have HB8 := Lib.hid hb8
          clear hb8
          go_wp2_with fail
          refine (HJN.out _ HB8.out).mono ?_; rintro e9 w9 ⟨rfl, hb9⟩
          go_wp2_with fail
          go_ret
          exact ⟨by rw [HF.out]; rfl, HD.out.trans ((HBZ.out.trans ((HB8.out.trans (hb9.mono HB8.out.size)).mono hsz2)).mono (by omega))⟩
end Go.Proofs.YtcjaaknnfohllaaGreatDoor

/- The program's ReadSitesAct walked. -/
namespace Go.Proofs.YtcjaaknnfohllaaGreatDoor
open Go.RowKit

/-- An operation of two sites whose rows are of the call's own and lie apart. -/
def SactO (w : World) (lo : Nat) (v : Value) (g : Int × Int × Act) : Prop :=
  ∃ (A : Option Addr) (ca : Nat) (B : Option Addr) (cb : Nat) (C : Option Addr) (cc m1 m2 : Nat), v = .agg #[.int .i64 g.1, .int .i64 g.2.1, .int .i64 g.2.2.k, .int .i64 g.2.2.a, .string g.2.2.r, .string g.2.2.l, .slice A g.2.2.args.length ca, .slice B g.2.2.input.length cb, .slice C g.2.2.keep.length cc] ∧ lo ≤ m1 ∧ m1 ≤ m2 ∧ m2 ≤ w.heap.size ∧
    OwnIn Value.string w lo m1 9 (.slice A g.2.2.args.length ca) g.2.2.args ∧ OwnIn Value.string w m1 m2 9 (.slice B g.2.2.input.length cb) g.2.2.input ∧ OwnIn (Value.int .i64) w m2 w.heap.size 2 (.slice C g.2.2.keep.length cc) g.2.2.keep
theorem SactO.zero (w : World) (lo : Nat) (h : lo ≤ w.heap.size) : SactO w lo (.agg #[.int .i64 0, .int .i64 0, .int .i64 0, .int .i64 0, .string ⟨#[]⟩, .string ⟨#[]⟩, .slice none 0 0, .slice none 0 0, .slice none 0 0]) sact0 :=
  ⟨none, 0, none, 0, none, 0, lo, lo, rfl, Nat.le_refl _, Nat.le_refl _, h, OwnIn.nil_ _ _ _ _ _, OwnIn.nil_ _ _ _ _ _, OwnIn.nil_ _ _ _ _ _⟩
theorem SactB.new (w : World) : SactB (w.alloc (.cells #[.int .i64 0, .int .i64 0, .int .i64 0, .int .i64 0, .string ⟨#[]⟩, .string ⟨#[]⟩, .slice none 0 0, .slice none 0 0, .slice none 0 0] 32)) w.heap.size sact0 :=
  ⟨none, 0, none, 0, none, 0, w.heap.size + 1, w.heap.size + 1, Blk.new w _ _, Nat.le_refl _, Nat.le_refl _, by simp, OwnIn.nil_ _ _ _ _ _, OwnIn.nil_ _ _ _ _ _, OwnIn.nil_ _ _ _ _ _⟩
theorem RowR.set_hi {α : Type} {enc : α → Value} {d : α} {w : World} {lo hi g o : Nat} {u : Value} {A : Option Addr} {n : Nat} {xs : List α} (h : RowR enc d w lo hi A n xs) (hg : hi ≤ g) : RowR enc d (w.setCell ⟨g, o, none⟩ u) lo hi A n xs :=
  h.keep fun b _ h2 => Below.heap_setCell w ⟨g, o, none⟩ u b (by show b ≠ g; omega)
theorem put2_blk {w : World} {M : Nat} {t : TypeId} {c0 c1 c2 c3 c4 c5 c6 c7 c8 : Value} (h : Blk w M t #[c0, c1, c2, c3, c4, c5, c6, c7, c8]) (v0 v1 v2 v3 v4 v5 v6 : Value) : Blk (((((((w.setCell ⟨M, 2, none⟩ v0).setCell ⟨M, 3, none⟩ v1).setCell ⟨M, 4, none⟩ v2).setCell ⟨M, 5, none⟩ v3).setCell ⟨M, 6, none⟩ v4).setCell ⟨M, 7, none⟩ v5).setCell ⟨M, 8, none⟩ v6) M t #[c0, c1, v0, v1, v2, v3, v4, v5, v6] := by
  have h1 : Blk (w.setCell ⟨M, 2, none⟩ v0) M t #[c0, c1, v0, c3, c4, c5, c6, c7, c8] := h.set_ 2 v0
  have h2 : Blk ((w.setCell ⟨M, 2, none⟩ v0).setCell ⟨M, 3, none⟩ v1) M t #[c0, c1, v0, v1, c4, c5, c6, c7, c8] := h1.set_ 3 v1
  have h3 : Blk (((w.setCell ⟨M, 2, none⟩ v0).setCell ⟨M, 3, none⟩ v1).setCell ⟨M, 4, none⟩ v2) M t #[c0, c1, v0, v1, v2, c5, c6, c7, c8] := h2.set_ 4 v2
  have h4 : Blk ((((w.setCell ⟨M, 2, none⟩ v0).setCell ⟨M, 3, none⟩ v1).setCell ⟨M, 4, none⟩ v2).setCell ⟨M, 5, none⟩ v3) M t #[c0, c1, v0, v1, v2, v3, c6, c7, c8] := h3.set_ 5 v3
  have h5 : Blk (((((w.setCell ⟨M, 2, none⟩ v0).setCell ⟨M, 3, none⟩ v1).setCell ⟨M, 4, none⟩ v2).setCell ⟨M, 5, none⟩ v3).setCell ⟨M, 6, none⟩ v4) M t #[c0, c1, v0, v1, v2, v3, v4, c7, c8] := h4.set_ 6 v4
  have h6 : Blk ((((((w.setCell ⟨M, 2, none⟩ v0).setCell ⟨M, 3, none⟩ v1).setCell ⟨M, 4, none⟩ v2).setCell ⟨M, 5, none⟩ v3).setCell ⟨M, 6, none⟩ v4).setCell ⟨M, 7, none⟩ v5) M t #[c0, c1, v0, v1, v2, v3, v4, v5, c8] := h5.set_ 7 v5
  have h7 : Blk (((((((w.setCell ⟨M, 2, none⟩ v0).setCell ⟨M, 3, none⟩ v1).setCell ⟨M, 4, none⟩ v2).setCell ⟨M, 5, none⟩ v3).setCell ⟨M, 6, none⟩ v4).setCell ⟨M, 7, none⟩ v5).setCell ⟨M, 8, none⟩ v6) M t #[c0, c1, v0, v1, v2, v3, v4, v5, v6] := h6.set_ 8 v6
  exact h7
/-- Cells of block M alone are written. -/
theorem rows_set {w : World} {M o m1 m2 : Nat} {u : Value} {A : Option Addr} {ca : Nat} {B : Option Addr} {cb : Nat} {C : Option Addr} {cc : Nat} {xs ys : List ByteArray} {zs : List Int} (hM : M + 1 ≤ m1) (hm : m1 ≤ m2)
    (h : OwnIn Value.string w (M + 1) m1 9 (.slice A xs.length ca) xs ∧ OwnIn Value.string w m1 m2 9 (.slice B ys.length cb) ys ∧ OwnIn (Value.int .i64) w m2 w.heap.size 2 (.slice C zs.length cc) zs) :
    OwnIn Value.string (w.setCell ⟨M, o, none⟩ u) (M + 1) m1 9 (.slice A xs.length ca) xs ∧ OwnIn Value.string (w.setCell ⟨M, o, none⟩ u) m1 m2 9 (.slice B ys.length cb) ys ∧ OwnIn (Value.int .i64) (w.setCell ⟨M, o, none⟩ u) m2 (w.setCell ⟨M, o, none⟩ u).heap.size 2 (.slice C zs.length cc) zs :=
  ⟨h.1.set_lo (by omega), h.2.1.set_lo (by omega), by
    have := h.2.2.set_lo (g := M) (o := o) (u := u) (by omega)
    simpa [World.setCell] using this⟩

/-- Cells 2 to 8 of block M written. -/
def put2 (w : World) (M : Nat) (v0 v1 v2 v3 v4 v5 v6 : Value) : World := (((((((w.setCell ⟨M, 2, none⟩ v0).setCell ⟨M, 3, none⟩ v1).setCell ⟨M, 4, none⟩ v2).setCell ⟨M, 5, none⟩ v3).setCell ⟨M, 6, none⟩ v4).setCell ⟨M, 7, none⟩ v5).setCell ⟨M, 8, none⟩ v6)
theorem put2_size (w : World) (M : Nat) (v0 v1 v2 v3 v4 v5 v6 : Value) : (put2 w M v0 v1 v2 v3 v4 v5 v6).heap.size = w.heap.size := by simp [put2, World.setCell]
theorem put2_row {w : World} {lo M : Nat} {A : Option Addr} {n : Nat} {xs : List ByteArray} (h : StrR w lo M A n xs) (v0 v1 v2 v3 v4 v5 v6 : Value) : StrR (put2 w M v0 v1 v2 v3 v4 v5 v6) lo M A n xs :=
  RowR.set_hi (RowR.set_hi (RowR.set_hi (RowR.set_hi (RowR.set_hi (RowR.set_hi (RowR.set_hi h (Nat.le_refl _)) (Nat.le_refl _)) (Nat.le_refl _)) (Nat.le_refl _)) (Nat.le_refl _)) (Nat.le_refl _)) (Nat.le_refl _)
theorem put2_far {w : World} {g M : Nat} {t : TypeId} {cs : Array Value} (h : Blk w g t cs) (hg : g ≠ M) (v0 v1 v2 v3 v4 v5 v6 : Value) : Blk (put2 w M v0 v1 v2 v3 v4 v5 v6) g t cs :=
  ((((((h.far (p := ⟨M, 2, none⟩) hg v0).far (p := ⟨M, 3, none⟩) hg v1).far (p := ⟨M, 4, none⟩) hg v2).far (p := ⟨M, 5, none⟩) hg v3).far (p := ⟨M, 6, none⟩) hg v4).far (p := ⟨M, 7, none⟩) hg v5).far (p := ⟨M, 8, none⟩) hg v6
theorem put2_below {w0 w : World} {B M : Nat} (h : Below B w0 w) (hg : B ≤ M) (v0 v1 v2 v3 v4 v5 v6 : Value) : Below B w0 (put2 w M v0 v1 v2 v3 v4 v5 v6) :=
  ((((((h.setCell (p := ⟨M, 2, none⟩) hg v0).setCell (p := ⟨M, 3, none⟩) hg v1).setCell (p := ⟨M, 4, none⟩) hg v2).setCell (p := ⟨M, 5, none⟩) hg v3).setCell (p := ⟨M, 6, none⟩) hg v4).setCell (p := ⟨M, 7, none⟩) hg v5).setCell (p := ⟨M, 8, none⟩) hg v6
theorem put2_rows {w : World} {M m1 m2 : Nat} {A : Option Addr} {ca : Nat} {B : Option Addr} {cb : Nat} {C : Option Addr} {cc : Nat} {xs ys : List ByteArray} {zs : List Int} (hM : M + 1 ≤ m1) (hm : m1 ≤ m2)
    (h : OwnIn Value.string w (M + 1) m1 9 (.slice A xs.length ca) xs ∧ OwnIn Value.string w m1 m2 9 (.slice B ys.length cb) ys ∧ OwnIn (Value.int .i64) w m2 w.heap.size 2 (.slice C zs.length cc) zs) (v0 v1 v2 v3 v4 v5 v6 : Value) :
    OwnIn Value.string (put2 w M v0 v1 v2 v3 v4 v5 v6) (M + 1) m1 9 (.slice A xs.length ca) xs ∧ OwnIn Value.string (put2 w M v0 v1 v2 v3 v4 v5 v6) m1 m2 9 (.slice B ys.length cb) ys ∧ OwnIn (Value.int .i64) (put2 w M v0 v1 v2 v3 v4 v5 v6) m2 (put2 w M v0 v1 v2 v3 v4 v5 v6).heap.size 2 (.slice C zs.length cc) zs :=
  rows_set hM hm (rows_set hM hm (rows_set hM hm (rows_set hM hm (rows_set hM hm (rows_set hM hm (rows_set hM hm h))))))
theorem put2_sact {w : World} {M : Nat} {c0 c1 : Int} {c2 c3 c4 c5 c6 c7 c8 : Value} {X : Act} {A : Option Addr} {ca : Nat} {B : Option Addr} {cb : Nat} {C : Option Addr} {cc n1 n2 : Nat} (h : Blk w M 32 #[.int .i64 c0, .int .i64 c1, c2, c3, c4, c5, c6, c7, c8]) (h1 : M + 1 ≤ n1) (h2 : n1 ≤ n2) (h3 : n2 ≤ w.heap.size)
    (hr : OwnIn Value.string w (M + 1) n1 9 (.slice A X.args.length ca) X.args ∧ OwnIn Value.string w n1 n2 9 (.slice B X.input.length cb) X.input ∧ OwnIn (Value.int .i64) w n2 w.heap.size 2 (.slice C X.keep.length cc) X.keep) :
    SactB (put2 w M (.int .i64 X.k) (.int .i64 X.a) (.string X.r) (.string X.l) (.slice A X.args.length ca) (.slice B X.input.length cb) (.slice C X.keep.length cc)) M (c0, c1, X) :=
  ⟨A, ca, B, cb, C, cc, n1, n2, put2_blk h _ _ _ _ _ _ _, h1, h2, by rw [put2_size]; exact h3, put2_rows h1 h2 hr _ _ _ _ _ _ _⟩

set_option maxHeartbeats 8000000 in
set_option maxRecDepth 100000 in
theorem implReadSitesAct_any (s : ByteArray) (hs : s.size ≤ 1048576) (w : World) (hEw : EnvR w) :
    Calls Tryz.prog 18 #[.string s] w fun e w' => (∃ v, e = .returned (.tuple #[v, .bool (rsI s).isSome]) ∧ SactO w' w.heap.size v ((rsI s).getD sact0)) ∧ Below w.heap.size w w' := by
  have HBZ := Lib.hid (Blk.new w 32 #[.int .i64 0, .int .i64 0, .int .i64 0, .int .i64 0, .string ⟨#[]⟩, .string ⟨#[]⟩, .slice none 0 0, .slice none 0 0, .slice none 0 0])
  have hd1 := (Below.refl w.heap.size w).alloc (Nat.le_refl _) (.cells #[.int .i64 0, .int .i64 0, .int .i64 0, .int .i64 0, .string ⟨#[]⟩, .string ⟨#[]⟩, .slice none 0 0, .slice none 0 0, .slice none 0 0] 32)
  have HB1 := Lib.hid hd1
  have hs1 := own_alloc_sz w (.cells #[.int .i64 0, .int .i64 0, .int .i64 0, .int .i64 0, .string ⟨#[]⟩, .string ⟨#[]⟩, .slice none 0 0, .slice none 0 0, .slice none 0 0] 32)
  have HWD := Lib.hid (fun W => (show Calls Tryz.prog 52 #[.string s] W fun e w' => ∃ v, e = .returned v ∧ OwnStrs w' W.heap.size 9 v (wrds s) ∧ Below W.heap.size W w' from wordsOf_any s W hs))
  have hwl := wrds_small s
  have HEW := Lib.hid hEw
  have HRS := Lib.hid (show rsI s = if wrds s = [] then none else if (guessI (wrds s)).2 = true ∧ sitesT (guessI (wrds s)).1.1 (guessI (wrds s)).1.2.1 (guessI (wrds s)).1.2.2 = s.data.toList then some (guessI (wrds s)).1 else none from rfl)
  generalize rsI s = Q at *
  generalize wrds s = L at *
  clear hd1 hEw
  by_cases hL : L = []
  · have HF := Lib.hid (show Q = none by rw [HRS.out, if_pos hL])
    have HLL := Lib.hid (show L.length = 0 by rw [hL]; rfl)
    have i0 : ((L.length : Int) == 0) = true := by rw [beq_iff_eq, HLL.out]; rfl
    have HH := Lib.hid hL
    clear hL hwl HRS
    go_enter Tryz.func18, Tryz.ntmps18
    go_wp2_with fail
    refine (HWD.out _).mono ?_; rintro e2 w2 ⟨v2, rfl, hv2, hb2⟩
    obtain ⟨A2, c2, rfl⟩ := hv2.1
    have HZ2 := Lib.hid (HBZ.out.below hb2 (by omega))
    have HB2 := Lib.hid (HB1.out.trans (hb2.mono (by omega)))
    have hs2 := hb2.size
    clear hv2 hb2 HBZ HB1 HWD
    have fz := HZ2.out.cell
    have zz := HZ2.out.frozen
    go_wp2_with fail
    refine bodyPost_ret (v := .tuple #[.agg #[.int .i64 0, .int .i64 0, .int .i64 0, .int .i64 0, .string ⟨#[]⟩, .string ⟨#[]⟩, .slice none 0 0, .slice none 0 0, .slice none 0 0], .bool false]) (by simp [results, Tryz.results18, go_sem, fz]) rfl ⟨?_, ?_⟩
    · rw [HF.out]
      exact ⟨_, rfl, SactO.zero _ _ (by simp [World.setCell]; omega)⟩
    · repeat (with_reducible refine Below.setCell ?_ (by first | exact Nat.le_refl _ | (show _ ≤ _; omega)) _)
      exact HB2.out
  · have hpos : 0 < L.length := List.length_pos_iff.2 hL
    have i0 : ((L.length : Int) == 0) = false := by rw [beq_eq_false_iff_ne]; omega
    have HF := Lib.hid (show Q = if (guessI L).2 = true ∧ sitesT (guessI L).1.1 (guessI L).1.2.1 (guessI L).1.2.2 = s.data.toList then some (guessI L).1 else none by rw [HRS.out, if_neg hL])
    have hld : (L.drop 1).length = L.length - 1 := List.length_drop ..
    have HSMALL := Lib.hid (guessI_small L (by omega) (fun y hy => Nat.le_trans (hwl.2 y hy) hs))
    have HYS := Lib.hid (fun y (hy : y ∈ L) => Nat.le_trans (hwl.2 y hy) hs)
    have HEND := Lib.hid (hst_end L)
    have HLL := Lib.hid hwl.1
    have hLn : L.length - 1 ≤ 1048576 := by omega
    have HGH := Lib.hid (fun j h1 h2 h => gst_hit (L.getD 0 eB) (L.drop 1) j h1 h2 h)
    have HGM := Lib.hid (fun j h1 h2 h => gst_miss (L.getD 0 eB) (L.drop 1) j h1 h2 h)
    have HGZ := Lib.hid (gst_zero (placeIn (L.getD 0 eB) mainsW 0) (L.drop 1))
    have HHS := Lib.hid (hst_start (L.getD 0 eB) L)
    have HHH := Lib.hid (fun j h1 h2 h => hst_hit (L.getD 0 eB) L j h1 h2 h)
    have HHM := Lib.hid (fun j h1 h2 h => hst_miss (L.getD 0 eB) L j h1 h2 h)
    generalize guessI L = GI at *
    generalize hgs : (fun j => gst (placeIn (L.getD 0 eB) mainsW 0) (L.drop 1) j) = gs at *
    generalize hhs : (fun j => hst (placeIn (L.getD 0 eB) mainsW 0) (placeIn (L.getD 0 eB) wiresW 0) L j) = hs' at *
    have hgj : ∀ j, gst (placeIn (L.getD 0 eB) mainsW 0) (L.drop 1) j = gs j := fun j => congrFun hgs j
    have hhj : ∀ j, hst (placeIn (L.getD 0 eB) mainsW 0) (placeIn (L.getD 0 eB) wiresW 0) L j = hs' j := fun j => congrFun hhs j
    simp only [hgj, hhj] at HEND HGH HGM HGZ HHS HHH HHM
    clear hgs hhs hgj hhj HRS hwl hL
    generalize hY : L.getD 0 eB = Y at *
    have HY := Lib.hid (show L.getD 0 ByteArray.empty = Y from hY)
    clear hY
    have HSW := Lib.hid (fun k h1 h2 W => siteWord_any k h1 h2 W)
    have HSX := Lib.hid (fun k h1 h2 W => sitesWord_any k h1 h2 W)
    go_enter Tryz.func18, Tryz.ntmps18
    go_wp2_with fail
    refine (HWD.out _).mono ?_; rintro e2 w2 ⟨v2, rfl, hv2, hb2⟩
    obtain ⟨A2, c2, rfl⟩ := hv2.1
    have hcap : L.length ≤ c2 := by
      rcases hv2.2.2 with ⟨e, _⟩ | ⟨g', cap, cur, e, _, _, h3, _⟩
      · rw [e] at *; have := hv2.2.1; simp at this; omega
      · injection e with _ _ e3; subst e3; exact h3
    have hr2 := OwnR.reads (d := ByteArray.empty) hv2
    rw [hs1] at hr2
    obtain ⟨b, off, rfl, hb0, hbs, hcw⟩ := hr2.2 hpos
    have HR2 := Lib.hid hr2
    have HZ2 := Lib.hid (HBZ.out.below hb2 (by omega))
    have HB2 := Lib.hid (HB1.out.trans (hb2.mono (by omega)))
    have hs2 := hb2.size
    clear hv2 hb2 HBZ HB1 HWD hr2
    have HM3 := Lib.hid (SactB.new w2)
    have hb3 := (Below.refl w2.heap.size w2).alloc (Nat.le_refl _) (.cells #[.int .i64 0, .int .i64 0, .int .i64 0, .int .i64 0, .string ⟨#[]⟩, .string ⟨#[]⟩, .slice none 0 0, .slice none 0 0, .slice none 0 0] 32)
    have HR3 := Lib.hid (HR2.out.below hb3 (Nat.le_refl _))
    have HZ3 := Lib.hid (HZ2.out.below hb3 HZ2.out.lt)
    have HB3 := Lib.hid (HB2.out.trans (hb3.mono (by omega)))
    clear hb3 HR2 HZ2 HB2
    have ho1e : ∃ o1 : Nat, (if c2 = 1 then some (⟨b, off, none⟩ : Addr) else some ⟨b, off + 1, none⟩) = some ⟨b, o1, none⟩ ∧ (1 < L.length → o1 = off + 1) := by
      by_cases hc2 : c2 = 1
      · exact ⟨off, by rw [if_pos hc2], fun h => by omega⟩
      · exact ⟨off + 1, by rw [if_neg hc2], fun _ => rfl⟩
    obtain ⟨o1, ho1, hoe⟩ := ho1e
    have HO1 := Lib.hid ho1
    have HD1 := Lib.hid (fun W (h : StrR W (w.heap.size + 1) w2.heap.size (some ⟨b, off, none⟩) L.length L) => (show StrR W (w.heap.size + 1) w2.heap.size (some ⟨b, o1, none⟩) (L.length - 1) (L.drop 1) from by
      by_cases h2 : 1 < L.length
      · rw [hoe h2]; exact drop_row h 1 h2
      · exact ⟨hld, fun h => absurd h (by omega)⟩))
    clear ho1 hoe
    go_upto_region 5 with fail
    generalize w2.alloc (.cells #[.int .i64 0, .int .i64 0, .int .i64 0, .int .i64 0, .string ⟨#[]⟩, .string ⟨#[]⟩, .slice none 0 0, .slice none 0 0, .slice none 0 0] 32) = w3 at *
    generalize hM : w2.heap.size = M at *
    have hwM : w.heap.size < M := by omega
    clear hcw
    go_wp2_with fail
    go_loopw [6, 7] (fun okv jv wr => ∃ j : Nat, 1 ≤ j ∧ j ≤ 8 ∧ jv = .int .i64 (j : Int) ∧ okv = .bool (gs j).2 ∧ SactB wr M (gs j).1 ∧ StrR wr (w.heap.size + 1) M (some ⟨b, off, none⟩) L.length L ∧ Blk wr w.heap.size 32 #[.int .i64 0, .int .i64 0, .int .i64 0, .int .i64 0, .string ⟨#[]⟩, .string ⟨#[]⟩, .slice none 0 0, .slice none 0 0, .slice none 0 0] ∧ Below w.heap.size w wr) (fun _ jv _ => 8 - (intOf jv).toNat)
    case atStart => exact ⟨1, by omega, by omega, rfl, by rw [HGZ.out], by rw [HGZ.out]; exact HM3.out, HR3.out, HZ3.out, HB3.out⟩
    case round =>
      clear HM3 HR3 HZ3 HB3
      obtain ⟨j, hj1, hj8, rfl, rfl, hsb, hrd, hz, hbw⟩ := hrel
      have HSB := Lib.hid hsb; have HRD := Lib.hid hrd; have HZR := Lib.hid hz; have HBW := Lib.hid hbw
      have hMr := hsb.lt
      have hj0 : (0 : Int) ≤ (j : Int) := by omega
      by_cases hj : j ≤ 7
      · have t1 : (j : Int) ≤ 7 := by omega
        obtain ⟨b', off', e', _, hbM, hc0⟩ := hrd.at_ hpos
        injection e' with e'
        injection e' with e1' e2'
        subst e1' e2'
        rw [HY.out, Nat.add_zero] at hc0
        have HC0 := Lib.hid hc0
        have HSK := Lib.hid (fun W => HSW.out (j : Int) (by omega) t1 W)
        have HGHj := Lib.hid (HGH.out j hj1 hj)
        have HGMj := Lib.hid (HGM.out j hj1 hj)
        generalize wordK (j : Int) = WK at *
        clear hsb hrd hz hbw hc0
        go_wp2_with fail
        refine AnyT.region (fun _ => false) (fun w' => w'.cell? ⟨b, off, none⟩ = some (.string Y)) (by kernel_rfl) HC0.out (fun hHeld => ?_)
        ((refine AnyT.takeAny 0 20 ?_ rfl (by kernel_rfl) (by kernel_rfl) (by kernel_rfl) rfl rfl (fun _ _ _ _ h => h) rfl ?_ (by assumption) ?_); rotate_left; (intro w; go_simp; (try (with_reducible rfl))); simp only [Act.put, List.setIfInBounds_toArray, List.set_cons_zero, List.set_cons_succ])
        ((refine AnyT.takeAny 2 22 ?_ rfl (by kernel_rfl) (by kernel_rfl) (by kernel_rfl) rfl rfl (fun _ _ _ _ h => h) rfl ?_ (by assumption) ?_); rotate_left; (intro w; go_simp; (try (with_reducible rfl))); simp only [Act.put, List.setIfInBounds_toArray, List.set_cons_zero, List.set_cons_succ])
        ((refine AnyT.takeAny 3 23 ?_ rfl (by kernel_rfl) (by kernel_rfl) (by kernel_rfl) rfl rfl (fun _ _ _ _ h => h) rfl ?_ (by assumption) ?_); rotate_left; (intro w; go_simp; (try (with_reducible rfl))); simp only [Act.put, List.setIfInBounds_toArray, List.set_cons_zero, List.set_cons_succ])
        ((refine AnyT.take 4 24 ?_ rfl (by kernel_rfl) (by kernel_rfl) (by kernel_rfl) (by kernel_rfl) rfl (by kernel_rfl) rfl (fun _ _ _ _ h => h) rfl ?_ (by assumption) ?_); rotate_left; (intro w hSw; (try dsimp only at hSw); go_simp; (try (with_reducible rfl))); simp only [Act.put, List.setIfInBounds_toArray, List.set_cons_zero, List.set_cons_succ])
        ((refine AnyT.one (i := 1) (by kernel_rfl) rfl (fun K hK => ?_)))
        go_simp
        refine (HSK.out _).mono ?_
        rintro e4 w4 ⟨rfl, hb4⟩
        have hb5 : Below wr.heap.size wr w4 := (Below.refl wr.heap.size wr).drew.trans hb4
        have HC4 := Lib.hid ((hb5.cell (p := ⟨b, off, none⟩) (by show b < wr.heap.size; omega)).trans HC0.out)
        refine hK.out _ _ HC4.out (fun hHeld => ?_)
        clear hK K
        (try simp only [Go.Act.put, List.setIfInBounds_toArray, List.set_cons_zero, List.set_cons_succ])
        ((refine AnyT.takeAny 5 25 ?_ rfl (by kernel_rfl) (by kernel_rfl) (by kernel_rfl) rfl rfl (fun _ _ _ _ h => h) rfl ?_ (by assumption) ?_); rotate_left; (intro w; go_simp; (try (with_reducible rfl))); simp only [Act.put, List.setIfInBounds_toArray, List.set_cons_zero, List.set_cons_succ])
        refine AnyT.done (by kernel_rfl) ?_ _
        have HSB4 := Lib.hid (HSB.out.below hb5)
        have HRD4 := Lib.hid (HRD.out.below hb5 (by omega))
        have HZ4 := Lib.hid (HZR.out.below hb5 (by omega))
        have HB4 := Lib.hid (HBW.out.trans (hb5.mono HBW.out.size))
        have hs4 := hb5.size
        clear hb4 hb5 HSB HRD HZR HBW HC0 HC4 hHeld
        by_cases hq : WK = Y
        · have q1 : (WK.toList == Y.toList) = true := by rw [beq_dec, decide_eq_true hq]
          rw [q1]
          obtain ⟨g1, g2⟩ := HGHj.out hq
          have HG1 := Lib.hid g1; have HG2 := Lib.hid g2; have HQ := Lib.hid hq
          obtain ⟨A, ca, B, cb, C, cc, m1, m2, hbk, hm1, hm2, hm3, hrows⟩ := HSB4.out
          rw [g1] at hbk
          have HBK4 := Lib.hid hbk
          have HMI := Lib.hid (fun W (hW : Below w.heap.size w W) (hr : StrR W (w.heap.size + 1) M (some ⟨b, off, none⟩) L.length L) (hm : M ≤ W.heap.size) => readMain_any (j : Int) (some ⟨b, o1, none⟩) (L.length - 1) (c2 - 1) (w.heap.size + 1) M (L.drop 1) W (HEW.out.below hW) (HD1.out W hr) hm hLn (by omega) (fun y hy => HYS.out y (List.mem_of_mem_drop hy)))
          generalize (mainI (j : Int) (L.drop 1)).1 = X at *
          generalize (mainI (j : Int) (L.drop 1)).2 = okX at *
          have fn := hbk.cell
          have zn := hbk.frozen
          have ho1 := HO1.out
          have hp1 : 1 ≤ L.length := hpos
          clear hq g1 g2 hbk hrows hm1 hm2 hm3 HSB4
          go_upto_region 10 with fail
          have HBK5 := Lib.hid (show Blk (w4.setCell ⟨M, 0, none⟩ (.int .i64 1)) M 32 #[.int .i64 1, .int .i64 0, .int .i64 0, .int .i64 0, .string eB, .string eB, .slice A 0 ca, .slice B 0 cb, .slice C 0 cc] from HBK4.out.set_ 0 _)
          have HR5 := Lib.hid (RowR.set_hi (g := M) (o := 0) (u := .int .i64 1) HRD4.out (Nat.le_refl _))
          have HZ5 := Lib.hid (HZ4.out.far (p := ⟨M, 0, none⟩) (by show w.heap.size ≠ M; omega) (.int .i64 1))
          have HB5 := Lib.hid (HB4.out.setCell (p := ⟨M, 0, none⟩) (by show w.heap.size ≤ M; omega) (.int .i64 1))
          have hs5 : (w4.setCell ⟨M, 0, none⟩ (.int .i64 1)).heap.size = w4.heap.size := by simp [World.setCell]
          clear fn zn HBK4 HRD4 HZ4 HB4
          generalize w4.setCell ⟨M, 0, none⟩ (.int .i64 1) = w5 at *
          have hM5 := HBK5.out.lt
          clear hs5
          go_wp2_with fail
          refine (HMI.out w5 HB5.out HR5.out (by omega)).mono ?_
          rintro e6 w6 ⟨⟨v6, rfl, A6, ca6, B6, cb6, C6, cc6, n1, n2, rfl, p1, p2, p3, oA, oB, oC⟩, hb6⟩
          have HBK6 := Lib.hid (HBK5.out.below hb6 hM5)
          have HR6 := Lib.hid (HR5.out.below hb6 (by omega))
          have HZ6 := Lib.hid (HZ5.out.below hb6 (by omega))
          have HB6 := Lib.hid (HB5.out.trans (hb6.mono HB5.out.size))
          have HROW := Lib.hid (show OwnIn Value.string w6 (M + 1) n1 9 (.slice A6 X.args.length ca6) X.args ∧ OwnIn Value.string w6 n1 n2 9 (.slice B6 X.input.length cb6) X.input ∧ OwnIn (Value.int .i64) w6 n2 w6.heap.size 2 (.slice C6 X.keep.length cc6) X.keep from ⟨⟨OwnR.mono oA.1 (by omega), oA.2⟩, oB, oC⟩)
          have hs6 := hb6.size
          clear hb6 HBK5 HR5 HZ5 HB5 HMI oA oB oC
          have fn := HBK6.out.cell
          have zn := HBK6.out.frozen
          go_wp2_with fail
          have hsb7 := put2_sact (A := A6) (ca := ca6) (B := B6) (cb := cb6) (C := C6) (cc := cc6) HBK6.out (by omega) p2 (by omega) HROW.out
          have hr7 := put2_row HR6.out (.int .i64 X.k) (.int .i64 X.a) (.string X.r) (.string X.l) (.slice A6 X.args.length ca6) (.slice B6 X.input.length cb6) (.slice C6 X.keep.length cc6)
          have hz7 := put2_far HZ6.out (show w.heap.size ≠ M by omega) (.int .i64 X.k) (.int .i64 X.a) (.string X.r) (.string X.l) (.slice A6 X.args.length ca6) (.slice B6 X.input.length cb6) (.slice C6 X.keep.length cc6)
          have hb7 := put2_below HB6.out (show w.heap.size ≤ M by omega) (.int .i64 X.k) (.int .i64 X.a) (.string X.r) (.string X.l) (.slice A6 X.args.length ca6) (.slice B6 X.input.length cb6) (.slice C6 X.keep.length cc6)
          have HSB7 := Lib.hid hsb7; have HR7 := Lib.hid hr7; have HZ7 := Lib.hid hz7; have HB7 := Lib.hid hb7
          clear hsb7 hr7 hz7 hb7
          unfold put2 at HSB7 HR7 HZ7 HB7
          go_roundw
          case rel => exact ⟨j + 1, by omega, by omega, by go_num, by rw [HG2.out], by rw [HG2.out]; exact HSB7.out, HR7.out, HZ7.out, HB7.out⟩
          case measure => simp [intOf]; omega
        · have q1 : (WK.toList == Y.toList) = false := by rw [beq_dec, decide_eq_false hq]
          rw [q1]
          have HGN := Lib.hid (HGMj.out hq)
          have HQ := Lib.hid hq
          clear hq
          go_wp2_with fail
          go_roundw
          case rel => exact ⟨j + 1, by omega, by omega, by go_num, by rw [HGN.out], by rw [HGN.out]; exact HSB4.out, HRD4.out, HZ4.out, HB4.out⟩
          case measure => simp [intOf]; omega
      · have t1 : ¬ (j : Int) ≤ 7 := by omega
        obtain rfl : j = 8 := by omega
        rw [← HHS.out] at hsb
        have HSBs := Lib.hid hsb
        have hG8 : (gs 8).2 = (hs' 2).2 := by rw [HHS.out]
        rw [hG8]
        clear hsb hrd hz hbw hG8 HSB HGH HGM HGZ HHS
        go_wp2_with fail
        go_loopw [6, 8] (fun okv jv wq => ∃ j : Nat, 2 ≤ j ∧ j ≤ 8 ∧ jv = .int .i64 (j : Int) ∧ okv = .bool (hs' j).2 ∧ SactB wq M (hs' j).1 ∧ StrR wq (w.heap.size + 1) M (some ⟨b, off, none⟩) L.length L ∧ Blk wq w.heap.size 32 #[.int .i64 0, .int .i64 0, .int .i64 0, .int .i64 0, .string ⟨#[]⟩, .string ⟨#[]⟩, .slice none 0 0, .slice none 0 0, .slice none 0 0] ∧ Below w.heap.size w wq) (fun _ jv _ => 8 - (intOf jv).toNat)
        case atStart => exact ⟨2, by omega, by omega, rfl, rfl, HSBs.out, HRD.out, HZR.out, HBW.out⟩
        case round =>
          clear HSBs HRD HZR HBW
          obtain ⟨j, hj1, hj8, rfl, rfl, hsb, hrd, hz, hbw⟩ := hrel
          have HSB := Lib.hid hsb; have HRD := Lib.hid hrd; have HZR := Lib.hid hz; have HBW := Lib.hid hbw
          have hMr := hsb.lt
          have hj0 : (0 : Int) ≤ (j : Int) := by omega
          by_cases hj : j ≤ 7
          · have t1 : (j : Int) ≤ 7 := by omega
            obtain ⟨b', off', e', _, hbM, hc0⟩ := hrd.at_ hpos
            injection e' with e'
            injection e' with e1' e2'
            subst e1' e2'
            rw [HY.out, Nat.add_zero] at hc0
            have HC0 := Lib.hid hc0
            have HSK := Lib.hid (fun W => HSX.out (j : Int) (by omega) t1 W)
            have HGHj := Lib.hid (HHH.out j hj1 hj)
            have HGMj := Lib.hid (HHM.out j hj1 hj)
            generalize wordS (j : Int) = WK at *
            clear hsb hrd hz hbw hc0
            go_wp2_with fail
            refine AnyT.region (fun _ => false) (fun w' => w'.cell? ⟨b, off, none⟩ = some (.string Y)) (by kernel_rfl) HC0.out (fun hHeld => ?_)
            ((refine AnyT.takeAny 0 39 ?_ rfl (by kernel_rfl) (by kernel_rfl) (by kernel_rfl) rfl rfl (fun _ _ _ _ h => h) rfl ?_ (by assumption) ?_); rotate_left; (intro w; go_simp; (try (with_reducible rfl))); simp only [Act.put, List.setIfInBounds_toArray, List.set_cons_zero, List.set_cons_succ])
            ((refine AnyT.takeAny 2 41 ?_ rfl (by kernel_rfl) (by kernel_rfl) (by kernel_rfl) rfl rfl (fun _ _ _ _ h => h) rfl ?_ (by assumption) ?_); rotate_left; (intro w; go_simp; (try (with_reducible rfl))); simp only [Act.put, List.setIfInBounds_toArray, List.set_cons_zero, List.set_cons_succ])
            ((refine AnyT.takeAny 3 42 ?_ rfl (by kernel_rfl) (by kernel_rfl) (by kernel_rfl) rfl rfl (fun _ _ _ _ h => h) rfl ?_ (by assumption) ?_); rotate_left; (intro w; go_simp; (try (with_reducible rfl))); simp only [Act.put, List.setIfInBounds_toArray, List.set_cons_zero, List.set_cons_succ])
            ((refine AnyT.take 4 43 ?_ rfl (by kernel_rfl) (by kernel_rfl) (by kernel_rfl) (by kernel_rfl) rfl (by kernel_rfl) rfl (fun _ _ _ _ h => h) rfl ?_ (by assumption) ?_); rotate_left; (intro w hSw; (try dsimp only at hSw); go_simp; (try (with_reducible rfl))); simp only [Act.put, List.setIfInBounds_toArray, List.set_cons_zero, List.set_cons_succ])
            ((refine AnyT.one (i := 1) (by kernel_rfl) rfl (fun K hK => ?_)))
            go_simp
            refine (HSK.out _).mono ?_
            rintro e4 w4 ⟨rfl, hb4⟩
            have hb5 : Below wr.heap.size wr w4 := (Below.refl wr.heap.size wr).drew.trans hb4
            have HC4 := Lib.hid ((hb5.cell (p := ⟨b, off, none⟩) (by show b < wr.heap.size; omega)).trans HC0.out)
            refine hK.out _ _ HC4.out (fun hHeld => ?_)
            clear hK K
            (try simp only [Go.Act.put, List.setIfInBounds_toArray, List.set_cons_zero, List.set_cons_succ])
            ((refine AnyT.takeAny 5 44 ?_ rfl (by kernel_rfl) (by kernel_rfl) (by kernel_rfl) rfl rfl (fun _ _ _ _ h => h) rfl ?_ (by assumption) ?_); rotate_left; (intro w; go_simp; (try (with_reducible rfl))); simp only [Act.put, List.setIfInBounds_toArray, List.set_cons_zero, List.set_cons_succ])
            refine AnyT.done (by kernel_rfl) ?_ _
            have HSB4 := Lib.hid (HSB.out.below hb5)
            have HRD4 := Lib.hid (HRD.out.below hb5 (by omega))
            have HZ4 := Lib.hid (HZR.out.below hb5 (by omega))
            have HB4 := Lib.hid (HBW.out.trans (hb5.mono HBW.out.size))
            have hs4 := hb5.size
            clear hb4 hb5 HSB HRD HZR HBW HC0 HC4 hHeld
            by_cases hq : WK = Y
            · have q1 : (WK.toList == Y.toList) = true := by rw [beq_dec, decide_eq_true hq]
              rw [q1]
              obtain ⟨g1, g2⟩ := HGHj.out hq
              have HQ := Lib.hid hq
              obtain ⟨A, ca, B, cb, C, cc, m1, m2, hbk, hm1, hm2, hm3, hrows⟩ := HSB4.out
              rw [g1] at hbk hrows
              have HBK5 := Lib.hid (show Blk (w4.setCell ⟨M, 0, none⟩ (.int .i64 (j : Int))) M 32 #[.int .i64 (j : Int), .int .i64 0, .int .i64 0, .int .i64 0, .string eB, .string eB, .slice A 0 ca, .slice B 0 cb, .slice C 0 cc] from hbk.set_ 0 _)
              have HROW5 := Lib.hid (rows_set (o := 0) (u := .int .i64 (j : Int)) hm1 hm2 hrows)
              have HR5 := Lib.hid (RowR.set_hi (g := M) (o := 0) (u := .int .i64 (j : Int)) HRD4.out (Nat.le_refl _))
              have HZ5 := Lib.hid (HZ4.out.far (p := ⟨M, 0, none⟩) (by show w.heap.size ≠ M; omega) (.int .i64 (j : Int)))
              have HB5 := Lib.hid (HB4.out.setCell (p := ⟨M, 0, none⟩) (by show w.heap.size ≤ M; omega) (.int .i64 (j : Int)))
              have hs5 : (w4.setCell ⟨M, 0, none⟩ (.int .i64 (j : Int))).heap.size = w4.heap.size := by simp [World.setCell]
              have HMS := Lib.hid (show M + 1 ≤ m1 ∧ m1 ≤ m2 ∧ m2 ≤ (w4.setCell ⟨M, 0, none⟩ (.int .i64 (j : Int))).heap.size from ⟨hm1, hm2, by rw [hs5]; exact hm3⟩)
              have fn := hbk.cell
              have zn := hbk.frozen
              by_cases h1L : 1 < L.length
              · have HG2 := Lib.hid (show hs' (j + 1) = (((j : Int), valI (L.getD 1 eB), act0), okI (L.getD 1 eB)) by rw [g2, if_pos h1L])
                have i1L : (1 : Int) < (L.length : Int) := by omega
                have hX := getD_small L 1048576 1 HYS.out
                obtain ⟨b', off', e', _, _, hc1⟩ := HR5.out.at_ h1L
                injection e' with e'
                injection e' with e1' e2'
                subst e1' e2'
                have hc1' : (w4.setCell ⟨M, 0, none⟩ (.int .i64 (j : Int))).cell? ⟨b, off + 1, none⟩ = some (.string (L.getD 1 eB)) := hc1
                have HRI := Lib.hid (fun W (hW : Below w.heap.size w W) => readInteger_any (L.getD 1 eB) hX W (HEW.out.below hW))
                have HVO := Lib.hid (show valI (L.getD 1 eB) = (numI (L.getD 1 eB)).1 ∧ okI (L.getD 1 eB) = (numI (L.getD 1 eB)).2 from ⟨rfl, rfl⟩)
                generalize L.getD 1 eB = X at *
                generalize valI X = vX at *
                generalize okI X = oX at *
                rw [← HVO.out.1, ← HVO.out.2] at HRI
                have HC1 := Lib.hid hc1'
                clear hq g1 g2 hbk hrows hm1 hm2 hm3 HSB4 hc1 hc1' HVO hX
                go_upto_region 17 with fail
                clear fn zn HRD4 HZ4 HB4
                generalize w4.setCell ⟨M, 0, none⟩ (.int .i64 (j : Int)) = w5 at *
                have hM5 := HBK5.out.lt
                have hc1 := HC1.out
                clear hs5
                go_wp2_with fail
                refine (HRI.out w5 HB5.out).mono ?_; rintro e6 w6 ⟨rfl, hb6⟩
                have HBK6 := Lib.hid (HBK5.out.below hb6 hM5)
                have HR6 := Lib.hid (HR5.out.below hb6 (by omega))
                have HZ6 := Lib.hid (HZ5.out.below hb6 (by omega))
                have HB6 := Lib.hid (HB5.out.trans (hb6.mono HB5.out.size))
                have hs6 := hb6.size
                have HROW6 := Lib.hid (And.intro (HROW5.out.1.below hb6) (And.intro (HROW5.out.2.1.below hb6) (show OwnIn (Value.int .i64) w6 m2 w6.heap.size 2 _ _ from ⟨HROW5.out.2.2.1.below hb6, fun g hg => Nat.lt_of_lt_of_le (HROW5.out.2.2.2 g hg) hs6⟩)))
                clear hb6 HBK5 HR5 HZ5 HB5 HROW5 hc1 HC1
                have fn := HBK6.out.cell
                have zn := HBK6.out.frozen
                go_wp2_with fail
                have HSB7 := Lib.hid (show SactB (w6.setCell ⟨M, 1, none⟩ (.int .i64 vX)) M ((j : Int), vX, act0) from ⟨A, ca, B, cb, C, cc, m1, m2, HBK6.out.set_ 1 _, HMS.out.1, HMS.out.2.1, by have := HMS.out.2.2; simp [World.setCell]; omega, rows_set HMS.out.1 HMS.out.2.1 HROW6.out⟩)
                have HR7 := Lib.hid (RowR.set_hi (g := M) (o := 1) (u := .int .i64 vX) HR6.out (Nat.le_refl _))
                have HZ7 := Lib.hid (HZ6.out.far (p := ⟨M, 1, none⟩) (by show w.heap.size ≠ M; omega) (.int .i64 vX))
                have HB7 := Lib.hid (HB6.out.setCell (p := ⟨M, 1, none⟩) (by show w.heap.size ≤ M; omega) (.int .i64 vX))
                go_roundw
                case rel => exact ⟨j + 1, by omega, by omega, by go_num, by rw [HG2.out], by rw [HG2.out]; exact HSB7.out, HR7.out, HZ7.out, HB7.out⟩
                case measure => simp [intOf]; omega
              · have HG2 := Lib.hid (show hs' (j + 1) = (((j : Int), 0, act0), true) by rw [g2, if_neg h1L])
                have HOK := Lib.hid (show (hs' j).2 = true by rw [g1])
                have i1L : ¬ (1 : Int) < (L.length : Int) := by omega
                have HSB7 := Lib.hid (show SactB (w4.setCell ⟨M, 0, none⟩ (.int .i64 (j : Int))) M ((j : Int), 0, act0) from ⟨A, ca, B, cb, C, cc, m1, m2, HBK5.out, hm1, hm2, by rw [hs5]; exact hm3, HROW5.out⟩)
                clear hq g1 g2 hbk hrows hm1 hm2 hm3 HSB4 hs5
                go_wp2_with fail
                go_roundw
                case rel => exact ⟨j + 1, by omega, by omega, by go_num, by rw [HG2.out, HOK.out], by rw [HG2.out]; exact HSB7.out, HR5.out, HZ5.out, HB5.out⟩
                case measure => simp [intOf]; omega
            · have q1 : (WK.toList == Y.toList) = false := by rw [beq_dec, decide_eq_false hq]
              rw [q1]
              have HGN := Lib.hid (HGMj.out hq)
              have HQ := Lib.hid hq
              clear hq
              go_wp2_with fail
              go_roundw
              case rel => exact ⟨j + 1, by omega, by omega, by go_num, by rw [HGN.out], by rw [HGN.out]; exact HSB4.out, HRD4.out, HZ4.out, HB4.out⟩
              case measure => simp [intOf]; omega
          · have t1 : ¬ (j : Int) ≤ 7 := by omega
            obtain rfl : j = 8 := by omega
            rw [HEND.out] at hsb
            have hok8 : (hs' 8).2 = GI.2 := by rw [HEND.out]
            rw [hok8]
            obtain ⟨A, ca, B, cb, C, cc, m1, m2, hbk, hm1, hm2, hm3, hrows⟩ := hsb
            have HBK := Lib.hid hbk; have HROW := Lib.hid hrows; have HMS := Lib.hid (And.intro hm1 (And.intro hm2 hm3))
            have hsm := HSMALL.out
            have hx : SActR wr (M + 1) wr.heap.size (.agg #[.int .i64 GI.1.1, .int .i64 GI.1.2.1, .int .i64 GI.1.2.2.k, .int .i64 GI.1.2.2.a, .string GI.1.2.2.r, .string GI.1.2.2.l, .slice A GI.1.2.2.args.length ca, .slice B GI.1.2.2.input.length cb, .slice C GI.1.2.2.keep.length cc]) GI.1.1 GI.1.2.1 GI.1.2.2 :=
              ⟨A, ca, B, cb, C, cc, rfl, OwnR.reads (d := ByteArray.empty) hrows.1.1, (OwnR.reads (d := ByteArray.empty) hrows.2.1.1).more hm1 (Nat.le_refl _), (OwnR.reads (d := (0 : Int)) hrows.2.2.1).more (Nat.le_trans hm1 hm2) (Nat.le_refl _)⟩
            have HTX := Lib.hid (implSitesActText_any GI.1.2.2 GI.1.1 GI.1.2.1 _ _ _ wr hx (Nat.le_refl _) hsm.1 hsm.2 (HEW.out.below HBW.out).1)
            clear hrd hz hbw HSB hx hsm HHH HHM HEND HSMALL hbk hrows hm1 hm2 hm3 hok8 HRD HSW HSX HYS
            obtain ⟨⟨kind, at_, X⟩, okG⟩ := GI
            dsimp only at *
            cases okG
            · have HQN := Lib.hid (show Q = none by rw [HF.out]; exact if_neg (fun h => absurd h.1 Bool.false_ne_true))
              have fz := HZR.out.cell
              have zz := HZR.out.frozen
              go_wp2_with fail
              refine bodyPost_ret (v := .tuple #[.agg #[.int .i64 0, .int .i64 0, .int .i64 0, .int .i64 0, .string ⟨#[]⟩, .string ⟨#[]⟩, .slice none 0 0, .slice none 0 0, .slice none 0 0], .bool false]) (by simp [results, Tryz.results18, go_sem, fz]) rfl ⟨?_, ?_⟩
              · rw [HQN.out]
                exact ⟨_, rfl, SactO.zero _ _ (by have := HBW.out.size; simp [World.setCell]; omega)⟩
              · repeat (with_reducible refine Below.setCell ?_ (by first | exact Nat.le_refl _ | (show _ ≤ _; omega)) _)
                exact HBW.out
            · have fn := HBK.out.cell
              have hbq := bytes_eq (sitesT kind at_ X) s
              by_cases hT : sitesT kind at_ X = s.data.toList
              · have HQS := Lib.hid (show Q = some (kind, at_, X) by rw [HF.out]; exact if_pos ⟨rfl, hT⟩)
                rw [decide_eq_true hT] at hbq
                generalize (⟨(sitesT kind at_ X).toArray⟩ : ByteArray) = TT at *
                have HT := Lib.hid hT
                clear hT HF
                go_wp2_with fail
                refine HTX.out.mono ?_; rintro e5 w5 ⟨rfl, hb5⟩
                have HBK5 := Lib.hid (HBK.out.below hb5 hMr)
                have HZ5 := Lib.hid (HZR.out.below hb5 (by omega))
                have HB5 := Lib.hid (HBW.out.trans (hb5.mono HBW.out.size))
                have hs5 := hb5.size
                have HROW5 := Lib.hid (And.intro (HROW.out.1.below hb5) (And.intro (HROW.out.2.1.below hb5) (show OwnIn (Value.int .i64) w5 m2 w5.heap.size 2 _ _ from ⟨HROW.out.2.2.1.below hb5, fun g hg => Nat.lt_of_lt_of_le (HROW.out.2.2.2 g hg) hs5⟩)))
                obtain ⟨hm1, hm2, hm3⟩ := HMS.out
                clear hb5 HBK HZR HBW HROW HTX fn HMS
                have fn := HBK5.out.cell
                have fz := HZ5.out.cell
                have zz := HZ5.out.frozen
                go_wp2_with fail
                refine bodyPost_ret (v := .tuple #[.agg #[.int .i64 kind, .int .i64 at_, .int .i64 X.k, .int .i64 X.a, .string X.r, .string X.l, .slice A X.args.length ca, .slice B X.input.length cb, .slice C X.keep.length cc], .bool true]) (by simp [results, Tryz.results18, go_sem, fz]) rfl ⟨?_, ?_⟩
                · rw [HQS.out]
                  refine ⟨_, rfl, A, ca, B, cb, C, cc, m1, m2, rfl, by omega, hm2, by simp [World.setCell]; omega, ?_, ?_, ?_⟩
                  · refine ⟨OwnR.mono (base := M + 1) ?_ (by omega), HROW5.out.1.2⟩
                    iterate 9 (with_reducible refine OwnR.set_lo ?_ (by show w.heap.size < M + 1; omega))
                    exact HROW5.out.1.1
                  · iterate 9 (with_reducible refine OwnIn.set_lo ?_ (by show w.heap.size < m1; omega))
                    exact HROW5.out.2.1
                  · refine ⟨?_, fun g hg => by have := HROW5.out.2.2.2 g hg; simp [World.setCell]; omega⟩
                    iterate 9 (with_reducible refine OwnR.set_lo ?_ (by show w.heap.size < m2; omega))
                    exact HROW5.out.2.2.1
                · repeat (with_reducible refine Below.setCell ?_ (by first | exact Nat.le_refl _ | (show _ ≤ _; omega)) _)
                  exact HB5.out
              · have HQN := Lib.hid (show Q = none by rw [HF.out]; exact if_neg (fun h => hT h.2))
                rw [decide_eq_false hT] at hbq
                generalize (⟨(sitesT kind at_ X).toArray⟩ : ByteArray) = TT at *
                have HT := Lib.hid hT
                clear hT HF
                go_wp2_with fail
                refine HTX.out.mono ?_; rintro e5 w5 ⟨rfl, hb5⟩
                have HZ5 := Lib.hid (HZR.out.below hb5 (by omega))
                have HB5 := Lib.hid (HBW.out.trans (hb5.mono HBW.out.size))
                have hs5 := hb5.size
                clear hb5 HBK HZR HBW HROW HTX fn HMS
                have fz := HZ5.out.cell
                have zz := HZ5.out.frozen
                go_wp2_with fail
                refine bodyPost_ret (v := .tuple #[.agg #[.int .i64 0, .int .i64 0, .int .i64 0, .int .i64 0, .string ⟨#[]⟩, .string ⟨#[]⟩, .slice none 0 0, .slice none 0 0, .slice none 0 0], .bool false]) (by simp [results, Tryz.results18, go_sem, fz]) rfl ⟨?_, ?_⟩
                · rw [HQN.out]
                  exact ⟨_, rfl, SactO.zero _ _ (by have := HB5.out.size; simp [World.setCell]; omega)⟩
                · repeat (with_reducible refine Below.setCell ?_ (by first | exact Nat.le_refl _ | (show _ ≤ _; omega)) _)
                  exact HB5.out
end Go.Proofs.YtcjaaknnfohllaaGreatDoor
