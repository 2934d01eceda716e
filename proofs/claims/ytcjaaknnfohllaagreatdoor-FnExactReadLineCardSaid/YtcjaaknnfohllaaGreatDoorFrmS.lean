/- The program's forms walked: QuoteText, runForm, plain. -/
import Derived.Test.YtcjaaknnfohllaaGreatDoorNumW
import Derived.Test.YtcjaaknnfohllaaGreatDoorQuoS
import Derived.Lib.SplitLaws
namespace Go.Proofs.YtcjaaknnfohllaaGreatDoor
open Go.RowKit

theorem infoTxt : (Tryz.prog.info? 9).map (fun i => (i.zero, i.size, i.bytes)) = some (some (.string ⟨#[]⟩), 1, 16) := by kernel_rfl

/-- strings.Join of a row of the call's own. -/
theorem join_own {w : World} {base : Nat} {v : Value} {xs : List ByteArray} (h : OwnStrs w base 9 v xs) (hx : xs.length ≤ 1000000000) (sep : ByteArray)
    (hl : (Lib.join (xs.map (·.data.toList)) sep.data.toList).length ≤ 1000000000) :
    Calls Tryz.prog 38 #[v, .string sep] w fun e w' => e = .returned (.string ⟨(Lib.join (xs.map (·.data.toList)) sep.data.toList).toArray⟩) ∧ Below w.heap.size w w' := by
  obtain ⟨⟨A, c, rfl⟩, ho⟩ := h
  by_cases h0 : xs = []
  · subst h0
    exact (Tryz.strings_Join_none A c sep w).mono fun e w' ⟨he, hw⟩ => ⟨he, hw ▸ Below.refl _ _⟩
  · have hp := List.length_pos_iff.2 h0
    obtain ⟨b, off, rfl, _, hb, hc⟩ := (RowR.of_own (enc := Value.string) (d := ByteArray.empty) ho).2 hp
    have hcap : xs.length ≤ c := by
      rcases ho.2 with ⟨e, _⟩ | ⟨g, cap, cur, e, _, _, h3, _⟩
      · cases e
      · injection e with _ _ e3; subst e3; exact h3
    refine Tryz.strings_Join b off c xs sep w (fun j x hj => ?_) hb (by omega) hcap (by omega)
    have hj' : j < xs.length := by
      rcases Nat.lt_or_ge j xs.length with h | h
      · exact h
      · rw [List.getElem?_eq_none h] at hj; cases hj
    rw [hc j hj', List.getD_eq_getElem?_getD, hj]
    rfl

theorem itoa_any (k : Nat) (hk : k ≤ 9000000000000000000) (w : World) (hT : TabsIn w) : Calls Tryz.prog 126 #[.int .i64 (k : Int)] w fun e w' => e = .returned (.string (decT k)) ∧ Below w.heap.size w w' := by
  refine (Tryz.strconv_Itoa (k : Int) (by omega) (by omega) w hT).mono ?_
  rintro e3 w3 ⟨rfl, q, os, rfl⟩
  refine ⟨?_, Lib.below_grow w.heap.size w (Nat.le_refl _) q os⟩
  unfold Lib.itoa decT
  rw [if_neg (by omega), Int.toNat_natCast]

set_option maxHeartbeats 4000000 in
set_option maxRecDepth 100000 in
theorem quoteText_any (s : ByteArray) (hs : s.size ≤ 65536) (w : World) (hE : EnvIn w) : Calls Tryz.prog 196 #[.string s] w fun e w' => e = .returned (.string ⟨(quoteP s.data.toList).toArray⟩) ∧ Below w.heap.size w w' := by
  obtain ⟨m, hm⟩ := hE.2
  have hc : Lib.countB s ⟨#[34]⟩ ≤ s.size := Lib.countB_le _ (by decide) _ s (Nat.le_refl _)
  have HR := Lib.hid (Tryz.strings_ReplaceAll s ⟨#[34]⟩ ⟨#[34, 34]⟩ m w (by omega) hm (by decide) (by show s.size + _ * 2 ≤ _; omega))
  have HQ := Lib.hid (show quoteP s.data.toList = 34 :: (Go.Lib.replaceAll s.data.toList [34] [34, 34] ++ [34]) by rw [quoteP_eq, replaceAll_quote])
  generalize quoteP s.data.toList = Q at *
  have HX := Lib.hid (show ∀ D : List UInt8, (((⟨#[34]⟩ : ByteArray) ++ ⟨D.toArray⟩) ++ ⟨#[34]⟩) = ⟨(34 :: (D ++ [34])).toArray⟩ from fun D => by rw [mk_app1]; exact mk_app (34 :: D) [34])
  clear hc
  go_enter Tryz.func196, Tryz.ntmps196
  go_wp2_with fail
  refine HR.out.mono ?_; rintro e1 w1 ⟨rfl, hb1⟩
  have HD := Lib.hid (show Go.Lib.replaceAll s.data.toList (⟨#[34]⟩ : ByteArray).data.toList (⟨#[34, 34]⟩ : ByteArray).data.toList = Go.Lib.replaceAll s.data.toList [34] [34, 34] from rfl)
  rw [HD.out]
  have hDl := doubled_len s.data.toList
  rw [len_list, ← replaceAll_quote] at hDl
  generalize Go.Lib.replaceAll s.data.toList [34] [34, 34] = D at *
  go_wp2_with fail
  go_ret
  exact ⟨by rw [HQ.out, ← HX.out]; rfl, hb1⟩

set_option maxHeartbeats 8000000 in
set_option maxRecDepth 100000 in
theorem runForm_any (t : ByteArray) (h0 : 0 < t.size) (ht : t.size ≤ 4096) (w : World) (hE : EnvIn w) : Calls Tryz.prog 198 #[.string t] w fun e w' => e = .returned (.string ⟨(formP t.data.toList).toArray⟩) ∧ Below w.heap.size w w' := by
  have hi0 : (0 : Int) < (t.size : Int) := by omega
  have HS := Lib.hid (fun W => printable_any t[0] W)
  have HE := Lib.hid hE; clear hE
  cases hsh : showsC t[0]
  · have HF := Lib.hid (formP_codes h0 hsh)
    generalize formP t.data.toList = F at *
    rw [hsh] at HS
    clear hsh
    go_enter Tryz.func198, Tryz.ntmps198
    go_upto_region 4 with (first | fail | (refine (HS.out _).mono ?_; rintro e1 w1 ⟨rfl, rfl⟩))
    have hown0 : OwnStrs (w.alloc (.cells #[] 9)) w.heap.size 9 (.slice (some ⟨w.heap.size, 0, none⟩) 0 0) [] := OwnR.none_ _ _ _ (Nat.le_refl _)
    have HO0 := Lib.hid hown0
    have HB0 := Lib.hid (show Below w.heap.size w (w.alloc (.cells #[] 9)) from (Below.refl _ _).alloc (Nat.le_refl _) _)
    have hsz : w.heap.size ≤ (w.alloc (.cells #[] 9)).heap.size := HB0.out.size
    clear hown0
    generalize w.alloc (.cells #[] 9) = wa at *
    obtain ⟨cap1, wb, hcv, hcells, hbb, hsz2⟩ := rowBytes wa t
    have HCL := Lib.hid hcells; have HBB := Lib.hid hbb
    have hszb : wa.heap.size < wb.heap.size := by omega
    clear hcells hbb hsz2
    go_wp2_with fail
    clear hcv
    go_loopw [3, 15] (fun v i wr => ∃ (k : Nat) (ns : List ByteArray), k ≤ t.size ∧ i = .int .i64 k ∧ Grows Value.string wr wb.heap.size 9 (.slice (some ⟨w.heap.size, 0, none⟩) 0 0) v ns ∧ ns.length = k ∧ ns.map (·.data.toList) = (t.data.toList.take k).map (fun c => Lib.decDigits c.toNat) ∧ Below wb.heap.size wb wr) (fun _ i _ => t.size - (intOf i).toNat)
    case atStart => exact ⟨0, [], Nat.zero_le _, rfl, Grows.start _ _ _ _, rfl, rfl, Below.refl _ _⟩
    case round =>
      obtain ⟨k, ns, hk, rfl, hg, hnl, hns, hbr⟩ := hrel
      have HBR := Lib.hid hbr
      have hbs := hbr.size
      have HNS := Lib.hid hns
      have hbW := Lib.hid (HB0.out.trans ((HBB.out.mono hsz).trans (hbr.mono (Nat.le_trans hsz HBB.out.size))))
      clear hns
      by_cases hlt : k < t.size
      · have i1 : (k : Int) < (t.size : Int) := by omega
        have i0 : (0 : Int) ≤ (k : Int) := by omega
        have hgl := get_list t k hlt
        have hcell : wr.cell? ⟨wa.heap.size, k, none⟩ = some (.int .u8 (t[k].toNat : Int)) := (hbr.cell (p := ⟨wa.heap.size, k, none⟩) hszb).trans (HCL.out k hlt)
        have HNX := Lib.hid (show (ns ++ [decT t[k].toNat]).map (·.data.toList) = (t.data.toList.take (k + 1)).map (fun c => Lib.decDigits c.toNat) by
          rw [take_snoc' _ _ _ hgl, List.map_append, List.map_append, HNS.out]; rfl)
        have hwr : IntKind.i64.wrap (t[k].toNat : Int) = (t[k].toNat : Int) := IntWalk.i64_in _ (by have := t[k].toNat_lt; omega)
        have HD := Lib.hid (itoa_any t[k].toNat (by have := t[k].toNat_lt; omega) wr (HE.out.below hbW.out).1)
        have hnl2 : ns.length ≤ 1000000 := by omega
        clear hbr hgl
        generalize decT t[k].toNat = D at *
        go_wp2_with fail
        refine HD.out.mono ?_; rintro e2 w2 ⟨rfl, hb2⟩
        have hg2 : Grows Value.string w2 wb.heap.size 9 (.slice (some ⟨w.heap.size, 0, none⟩) 0 0) u3 ns := by
          rcases hg with hg | hg
          · exact .inl (hg.below hb2)
          · exact .inr hg
        have hs2 := Nat.le_trans hbs hb2.size
        go_wp2_with (first
          | fail
          | (at_builtin; refine wpList_app1G (enc := Value.string) rfl (.tmp 19) (.tmp 23) 22 9 rfl Tryz.underlying22 rfl (by omega) (fun _ => rfl) infoTxt w2 wb.heap.size _ _ ns D rfl hg2 rfl (by omega) hs2 ?_; intro v3 w3 hown3 hb3))
        go_roundw
        case rel => exact ⟨k + 1, _, by omega, by go_num, hown3, by rw [List.length_append, hnl]; rfl, HNX.out, HBR.out.trans ((hb2.mono hbs).trans hb3)⟩
        case measure => simp [intOf]; omega
      · have i1 : ¬ (k : Int) < (t.size : Int) := by omega
        have hk' : k = t.size := by omega
        have hjn : Lib.join (ns.map (·.data.toList)) [44] = codesTo t.data.toList := by
          rw [HNS.out, List.take_of_length_le (by rw [len_list]; omega)]; rfl
        have hcl := codesTo_len _ t.data.toList rfl
        rw [len_list] at hcl
        have hown := Grows.done hg HO0.out (HBB.out.trans (HBR.out.mono HBB.out.size)) (Nat.le_trans hsz HBB.out.size)
        have HJ := Lib.hid (join_own hown (by omega) ⟨#[44]⟩ (by show (Lib.join (ns.map (·.data.toList)) [44]).length ≤ _; rw [hjn]; omega))
        have HJN := Lib.hid (show Lib.join (ns.map (·.data.toList)) (⟨#[44]⟩ : ByteArray).data.toList = codesTo t.data.toList from hjn)
        have hbs2 := hbW.out.size
        have HX := Lib.hid (show ∀ D : List UInt8, (((⟨#[36, 67, 40]⟩ : ByteArray) ++ ⟨D.toArray⟩) ++ ⟨#[41]⟩) = ⟨(36 :: 67 :: 40 :: (D ++ [41])).toArray⟩ from fun D => by rw [show (⟨#[36, 67, 40]⟩ : ByteArray) ++ ⟨D.toArray⟩ = ⟨([36, 67, 40] ++ D).toArray⟩ from mk_app _ _]; exact mk_app ([36, 67, 40] ++ D) [41])
        clear hbr hg hjn hown
        go_wp2_with fail
        refine HJ.out.mono ?_; rintro e3 w3 ⟨rfl, hb3⟩
        rw [HJN.out]
        generalize codesTo t.data.toList = D at *
        go_wp2_with fail
        go_ret
        exact ⟨by rw [HF.out, ← HX.out]; rfl, hbW.out.trans (hb3.mono hbs2)⟩
  · have HF := Lib.hid (formP_shows h0 hsh)
    have HQ := Lib.hid (quoteText_any t (by omega) w HE.out)
    have HFQ := Lib.hid (show formP t.data.toList = quoteP t.data.toList by rw [HF.out, quoteP_eq])
    rw [HFQ.out]
    generalize quoteP t.data.toList = F at *
    rw [hsh] at HS
    clear hsh HF HFQ
    go_enter Tryz.func198, Tryz.ntmps198
    go_wp2_with fail
    refine (HS.out _).mono ?_; rintro e1 w1 ⟨rfl, rfl⟩
    go_wp2_with fail
    refine HQ.out.mono ?_; rintro e1 w1 ⟨rfl, hb1⟩
    go_wp2_with fail
    go_ret
    exact ⟨rfl, hb1⟩
end Go.Proofs.YtcjaaknnfohllaaGreatDoor
