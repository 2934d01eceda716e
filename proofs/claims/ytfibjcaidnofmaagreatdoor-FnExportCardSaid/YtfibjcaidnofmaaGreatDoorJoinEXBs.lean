/- The program's UnpackTree walked, at the binary form of a tree. -/
import Derived.Test.YtfibjcaidnofmaaGreatDoorJoinEXBq
import Derived.Test.YtfibjcaidnofmaaGreatDoorJoinEXBe
import Derived.Test.YtfibjcaidnofmaaGreatDoorJoinEXBr
namespace Go.Proofs.YtfibjcaidnofmaaGreatDoor
open Go.RowKit

/-- What UnpackTree holds: its result, the reader, the tree that grows. -/
structure UnpSt (w W : World) (rest : ByteArray) (B : Option Addr) (d : Nat) (ts : List TyNode) : Prop where
  res : Blk W w.heap.size 26 #[.slice none 0 0]
  rd : RdB W (w.heap.size + 1) rest false
  var : Blk W (w.heap.size + 1 + 1) 26 #[.slice B ts.length d]
  own : Own shTree W (w.heap.size + 3) W.heap.size [.slice B ts.length d] ts
  mov : Below w.heap.size w W
  big : w.heap.size + 3 ≤ W.heap.size
theorem UnpSt.below {w W W' : World} {rest : ByteArray} {B : Option Addr} {d : Nat} {ts : List TyNode} (h : UnpSt w W rest B d ts) (hb : Below W.heap.size W W') : UnpSt w W' rest B d ts :=
  ⟨h.res.below hb h.res.lt, h.rd.below hb h.rd.lt, h.var.below hb h.var.lt, (h.own.below hb (Nat.le_refl _)).more (Nat.le_refl _) hb.size, h.mov.trans (hb.mono h.mov.size), Nat.le_trans h.big hb.size⟩
theorem UnpSt.read {w W W' : World} {rest rest' : ByteArray} {B : Option Addr} {d : Nat} {ts : List TyNode} (h : UnpSt w W rest B d ts) (hr : RdB W' (w.heap.size + 1) rest' false) (ho : Out [w.heap.size + 1] W W') (hz : W'.heap.size = W.heap.size) : UnpSt w W' rest' B d ts :=
  ⟨h.res.outOf ho (by omega), hr, h.var.outOf ho (by omega), (h.own.outOf ho (.inl (by omega))).more (Nat.le_refl _) (by omega), h.mov.trans (ho.below1 (by omega) h.mov.size), by rw [hz]; exact h.big⟩

/-- What one of a tree's nodes takes of its binary form. -/
theorem pack_step {ns : List Nod} {k : Nat} (hk : k < ns.length) : packFrom (lastOf [] (ns.take k)) (ns.drop k) = packOne (lastOf [] (ns.take k)) (ns.getD k nodD) ++ packFrom (lastOf [] (ns.take (k + 1))) (ns.drop (k + 1)) := by
  rw [lastOf_next ns hk, drop_nextN ns hk]
  rfl
theorem byte_small {n : Nat} (h : n ≤ 255) : (UInt8.ofNat n).toNat = n := by
  rw [UInt8.toNat_ofNat']
  omega
theorem rdOne_cons {rest : ByteArray} {n : Nat} {l : List UInt8} (h : rest.data.toList = UInt8.ofNat n :: l) (hn : n ≤ 255) : rdOne rest = (n, mkB l) := by
  unfold rdOne
  rw [h]
  show ((UInt8.ofNat n).toNat, mkB l) = _
  rw [byte_small hn]
theorem rdTake_app {rest : ByteArray} {a l : List UInt8} (h : rest.data.toList = a ++ l) : rdTake rest a.length = (mkB a, mkB l) := by
  have hl : rest.data.toList.length = rest.size := by simp
  have h2 : a.length ≤ rest.size := by rw [← hl, h, List.length_append]; omega
  unfold rdTake
  rw [if_pos h2, h, List.take_left, List.drop_left]

theorem results_ct {P : Program} {fn : Func} {p q : Tmp} {ty : TypeId} (h : fn.results = #[.cell p ty, .tmp q]) (tmps : Array Value) (w : World) (g : Nat) (t : TypeId) (cs : Array Value) (fr : Nat × Nat) (d : TypeDesc)
    (hp : tmps.getD p undef = .pointer (some ⟨g, 0, none⟩)) (hg : w.heap[g]? = some (.cells cs t fr))
    (hu : P.underlying ty = some d) (hd : (match d with | .struct _ | .array _ _ => true | _ => false) = true) (hi : (P.info? ty).map (·.size) = some cs.size) :
    (results fn tmps).run P w = .ok (.tuple #[.agg cs, tmps.getD q undef]) w := by
  have hp' : tmps[p]?.getD undef = .pointer (some ⟨g, 0, none⟩) := by simpa using hp
  simp [results, h, hp', asAddr, run_loadVar_row w g t ty cs fr d hg hu hd hi]
theorem packFrom_all : ∀ (xs : List Nod) (last : List UInt8), (∀ x ∈ xs, nodB x = true) → (packFrom last xs).length ≤ 304 * xs.length
  | [], _, _ => Nat.zero_le _
  | x :: xs, last, h => by
    have h1 := packFrom_all xs (nodKey x) fun y hy => h y (List.mem_cons_of_mem _ hy)
    have h2 := packOne_len last x (h x (List.mem_cons_self ..))
    show (packOne last x ++ packFrom (nodKey x) xs).length ≤ _
    rw [List.length_append, List.length_cons]
    omega
theorem UnpSt.one {w W : World} {rest : ByteArray} {B : Option Addr} {d n : Nat} {l : List UInt8} {ts : List TyNode} (h : UnpSt w W rest B d ts) (hl : rest.data.toList = UInt8.ofNat n :: l) (hn : n ≤ 255) (hs : rest.size ≤ 1000000) :
    Calls Tryz.prog 61 #[.pointer (some ⟨w.heap.size + 1, 0, none⟩)] W fun e W' => e = .returned (.int .i64 n) ∧ UnpSt w W' (mkB l) B d ts ∧ Out [w.heap.size + 1] W W' ∧ W'.heap.size = W.heap.size := by
  refine (one_any (w.heap.size + 1) rest false W h.rd hs).mono ?_
  rintro e W' ⟨he, hr, ho, hz⟩
  rw [rdOne_cons hl hn] at he hr
  rw [show (false || decide (rest.size < 1)) = false by
    have h1 : rest.data.toList.length = rest.size := by simp
    rw [hl, List.length_cons] at h1
    rw [decide_eq_false (by omega)]; rfl] at hr
  exact ⟨he, h.read hr ho hz, ho, hz⟩
theorem UnpSt.take {w W : World} {rest : ByteArray} {B : Option Addr} {d : Nat} {a l : List UInt8} {ts : List TyNode} (h : UnpSt w W rest B d ts) (hl : rest.data.toList = a ++ l) (hs : rest.size ≤ 1000000) :
    Calls Tryz.prog 62 #[.pointer (some ⟨w.heap.size + 1, 0, none⟩), .int .i64 a.length] W fun e W' => e = .returned (.string (mkB a)) ∧ UnpSt w W' (mkB l) B d ts ∧ Out [w.heap.size + 1] W W' ∧ W'.heap.size = W.heap.size := by
  have h1 : rest.data.toList.length = rest.size := by simp
  rw [hl, List.length_append] at h1
  refine (take_any (w.heap.size + 1) rest false a.length W h.rd hs (by omega)).mono ?_
  rintro e W' ⟨he, hr, ho, hz⟩
  rw [rdTake_app hl] at he hr
  rw [show (false || decide (rest.size < a.length)) = false by rw [decide_eq_false (by omega)]; rfl] at hr
  exact ⟨he, h.read hr ho hz, ho, hz⟩

set_option maxHeartbeats 16000000 in
set_option maxRecDepth 100000 in
theorem unpackTree_any (ns : List Nod) (w : World) (hB : treB ns = true) (hs : NodsSmall ns) (hE : EnvIn w) :
    Calls Tryz.prog 21 #[.string (mkB (packP ns))] w fun e w' => (∃ B d, e = .returned (.tuple #[.agg #[.slice B ns.length d], .bool true]) ∧ Own (Sh.row 32 shNode) w' w.heap.size w'.heap.size [.slice B ns.length d] (ns.map tyOf)) ∧ Below w.heap.size w w' := by
  have h120 := treB_len hB
  have HNB := Lib.hid (fun k hk => treB_nod hB k hk)
  have hPL := packFrom_len ns HNB.out ns.length (Nat.le_refl _)
  rw [List.take_length] at hPL
  have hP : packP ns = UInt8.ofNat ns.length :: packFrom [] ns := by unfold packP; rw [hB, if_pos rfl]
  obtain ⟨S, hS⟩ : ∃ S, S = mkB (packP ns) := ⟨_, rfl⟩
  rw [← hS]
  have HSP := Lib.hid hS
  have hSl : S.data.toList = UInt8.ofNat ns.length :: packFrom [] ns := by rw [hS, hP]; rfl
  have hSs : S.size ≤ 40000 := by
    have h1 : S.data.toList.length = S.size := by simp
    rw [hSl, List.length_cons] at h1; omega
  have qS : (S.toList == []) = false := by
    rw [beq_eq_false_iff_ne, ByteArray.toList_eq, hSl]
    intro e; cases e
  have HS1 := Lib.hid (rdOne_cons hSl (by omega))
  have HSM := Lib.hid hs
  have HE := Lib.hid hE
  have h0 : UnpSt w (((w.alloc (.cells #[.slice none 0 0] 26)).alloc (.cells #[.string S, .bool false] 91)).alloc (.cells #[.slice none 0 0] 26)) S none 0 [] := by
    have z1 : (w.alloc (.cells #[.slice none 0 0] 26)).heap.size = w.heap.size + 1 := by simp
    have z2 : ((w.alloc (.cells #[.slice none 0 0] 26)).alloc (.cells #[.string S, .bool false] 91)).heap.size = w.heap.size + 2 := by simp
    refine ⟨((Blk.new w 26 #[.slice none 0 0]).alloc _).alloc _, ?_, ?_, Own.nil_row _ _ _, ?_, by simp⟩
    · have := (Blk.new (w.alloc (.cells #[.slice none 0 0] 26)) 91 #[.string S, .bool false]).alloc (.cells #[.slice none 0 0] 26)
      rw [z1] at this
      exact this
    · have := Blk.new ((w.alloc (.cells #[.slice none 0 0] 26)).alloc (.cells #[.string S, .bool false] 91)) 26 #[.slice none 0 0]
      rw [z2] at this
      exact this
    · exact (((Below.refl w.heap.size w).alloc (Nat.le_refl _) _).alloc (by simp) _).alloc (by simp; omega) _
  have H0 := Lib.hid h0
  clear hP hPL hS hs hE h0 hB
  go_enter Tryz.func21, Tryz.ntmps21
  go_upto_region 2 with fail
  generalize ((w.alloc (.cells #[.slice none 0 0] 26)).alloc (.cells #[.string S, .bool false] 91)).alloc (.cells #[.slice none 0 0] 26) = w1 at *
  have H1 := Lib.hid (one_any (w.heap.size + 1) S false w1 H0.out.rd (by omega))
  rw [HS1.out, show (false || decide (S.size < 1)) = false by
    have h1 : S.data.toList.length = S.size := by simp
    rw [hSl, List.length_cons] at h1
    rw [decide_eq_false (by omega)]; rfl] at H1
  dsimp only at H1
  clear hSl
  go_wp2_with fail
  refine H1.out.mono ?_; rintro e2 w2 ⟨rfl, hr2, ho2, hz2⟩
  have H2 := Lib.hid (H0.out.read hr2 ho2 hz2)
  clear hr2 ho2 hz2 H1 H0 HS1
  go_wp2_with fail
  go_loopw [6, 7] (fun t n wr => ∃ (k : Nat) (B : Option Addr) (d : Nat) (rest : ByteArray), k ≤ ns.length ∧ n = .int .i64 ((ns.length - k : Nat) : Int) ∧ t = .string (mkB (lastOf [] (ns.take k))) ∧ Hid (rest.data.toList = packFrom (lastOf [] (ns.take k)) (ns.drop k)) ∧ UnpSt w wr rest B d ((ns.take k).map tyOf)) (fun _ n _ => (intOf n).toNat)
  case atStart => exact ⟨0, none, 0, _, Nat.zero_le _, rfl, rfl, Lib.hid rfl, H2.out⟩
  case round =>
    obtain ⟨k, B, d, rest, hk, rfl, rfl, hrest, hst⟩ := hrel
    have fb := hst.rd.cell
    by_cases hlt : k < ns.length
    · obtain ⟨m, hm⟩ : ∃ m, ns.length - k = m + 1 := ⟨ns.length - k - 1, by omega⟩
      have hm2 : ns.length - (k + 1) = m := by omega
      have hmb : m ≤ 120 := by omega
      rw [hm]
      have i1 : (0 : Int) < ((m + 1 : Nat) : Int) := by omega
      have HM := Lib.hid hm2
      have hnb := HNB.out k hlt
      have HLN := Lib.hid (lastOf_next ns hlt)
      have HTN := Lib.hid (take_nextN ns hlt)
      have hll := lastOf_len (ns.take k) [] (Nat.zero_le _)
      have hrs := hrest.out
      rw [pack_step hlt, HLN.out] at hrs
      have hsm := HSM.out.2 _ (getD_in (d := nodD) hlt)
      have hZ : (packFrom (nodKey (ns.getD k nodD)) (ns.drop (k + 1))).length ≤ 40000 := by
        have h1 := packFrom_all (ns.drop (k + 1)) (nodKey (ns.getD k nodD)) fun x hx => by
          obtain ⟨j, hj, e⟩ := List.getElem_of_mem (List.mem_of_mem_drop hx)
          have := HNB.out j hj
          rw [List.getD_eq_getElem?_getD, List.getElem?_eq_getElem hj] at this
          rw [← e]; exact this
        rw [List.length_drop] at h1
        omega
      generalize ns.getD k nodD = X at *
      generalize lastOf [] (ns.take k) = LA at *
      obtain ⟨Z, hZe⟩ : ∃ Z, Z = packFrom (nodKey X) (ns.drop (k + 1)) := ⟨_, rfl⟩
      rw [← hZe] at hrs hZ
      have HZ := Lib.hid hZe
      have hkl : (nodKey X).length ≤ 237 := keyP_len _ _
      have hshl := sharedP_le LA (nodKey X)
      have hvl : X.value.size ≤ 64 := by unfold nodB at hnb; simp only [Bool.and_eq_true, decide_eq_true_eq] at hnb; exact hnb.2
      have hjoin := shared_join LA (nodKey X)
      have hplace : placeP (nodKey X) = some (X.name, X.subs) := by
        unfold nodB at hnb
        simp only [Bool.and_eq_true, decide_eq_true_eq] at hnb
        exact placeP_key hnb.1.1 hnb.1.2
      unfold packOne shortP at hrs
      obtain ⟨sh, hsh⟩ : ∃ sh, sh = sharedP LA (nodKey X) := ⟨_, rfl⟩
      rw [← hsh] at hrs hshl hjoin
      have hdl : ((nodKey X).drop sh).length ≤ 237 := by rw [List.length_drop]; omega
      have hvl2 : X.value.data.toList.length ≤ 64 := by have h3 : X.value.data.toList.length = X.value.size := by simp
                                                        omega
      clear hsh hnb hZe
      generalize nodKey X = KY at *
      obtain ⟨D, hD⟩ : ∃ D, D = KY.drop sh := ⟨_, rfl⟩
      obtain ⟨V, hV⟩ : ∃ V, V = X.value.data.toList := ⟨_, rfl⟩
      have HV := Lib.hid (show mkB V = X.value by rw [hV]; exact mkB_self _)
      rw [← hD] at hrs hdl hjoin
      rw [← hV] at hrs hvl2
      clear hD hV
      simp only [List.cons_append, List.append_assoc] at hrs
      have hrl : rest.data.toList.length = rest.size := by simp
      have hrz : rest.size ≤ 100000 := by
        rw [← hrl, hrs]
        simp only [List.length_cons, List.length_append]
        omega
      obtain ⟨l2, hl2⟩ : ∃ l2, l2 = UInt8.ofNat V.length :: (V ++ Z) := ⟨_, rfl⟩
      have h2l : l2.length ≤ 50000 := by rw [hl2, List.length_cons, List.length_append]; omega
      rw [← hl2] at hrs
      have HL2 := Lib.hid hl2
      have HO1 := Lib.hid (hst.one hrs (by omega) (by omega))
      have hLB : (mkB LA).size = LA.length := List.size_toArray
      have hKB : ((mkB LA).extract 0 sh ++ mkB D).data.toList = KY := by
        rw [extn_take, ByteArray.data_append, Array.toList_append]
        exact hjoin
      have hmin : min (sh : Int) ((mkB LA).size : Int) = (sh : Int) := by rw [hLB]; omega
      have hshB : sh ≤ (mkB LA).size := by rw [hLB]; omega
      have hLBb : (mkB LA).size ≤ 237 := by rw [hLB]; omega
      have hDs : (mkB D).size = D.length := List.size_toArray
      have hDBs : (mkB D).size ≤ 237 := by rw [hDs]; exact hdl
      have hcat : ¬ 9223372036854775807 < ((mkB LA).extract 0 sh).size + (mkB D).size := by
        have h1 : ((mkB LA).extract 0 sh).size ≤ (mkB LA).size := by rw [ByteArray.size_extract]; omega
        rw [hDs]; omega
      have hcat2 : ¬ 9223372036854775807 < min sh (mkB LA).size + (mkB D).size := by rw [hDs]; omega
      clear hl2 hrs hrl hrz hLB hjoin hDs hrest hst hll hshl
      generalize mkB LA = LB at *
      obtain ⟨DB, hDB⟩ : ∃ DB, DB = mkB D := ⟨_, rfl⟩
      rw [← hDB] at hKB hcat hcat2 hDBs
      have HDB := Lib.hid hDB
      clear hDB
      have HKB := Lib.hid hKB
      clear hKB
      go_wp2_with fail
      refine HO1.out.mono ?_; rintro e3 w3 ⟨rfl, h3, ho3, hz3⟩
      have H3 := Lib.hid h3
      clear h3 ho3 hz3 HO1 fb
      go_upto_region 6 with fail
      have H4 := Lib.hid (show UnpSt w w3.drew (mkB (UInt8.ofNat D.length :: (D ++ l2))) B d ((ns.take k).map tyOf) from H3.out.below (below_drewN' w3 1))
      clear H3
      refine AnyT.region (fun _ => false) (fun _ => True) (by kernel_rfl) trivial (fun hHeld => ?_)
      generalize w3.drew = w4 at *
      have HO2 := Lib.hid (H4.out.one rfl (by omega) (by show (UInt8.ofNat D.length :: (D ++ l2)).toArray.size ≤ _; rw [List.size_toArray, List.length_cons, List.length_append]; omega))
      ((refine AnyT.takeAny 0 32 ?_ rfl (by kernel_rfl) (by kernel_rfl) (by kernel_rfl) rfl rfl (fun _ _ _ _ h => h) rfl ?_ (by assumption) ?_); rotate_left; (intro w; go_simp; (try (with_reducible rfl))); simp only [Act.put, List.setIfInBounds_toArray, List.set_cons_zero, List.set_cons_succ])
      ((refine AnyT.takeAny 1 33 ?_ rfl (by kernel_rfl) (by kernel_rfl) (by kernel_rfl) rfl rfl (fun _ _ _ _ h => h) rfl ?_ (by assumption) ?_); rotate_left; (intro w; go_simp; (try (with_reducible rfl))); simp only [Act.put, List.setIfInBounds_toArray, List.set_cons_zero, List.set_cons_succ])
      ((refine AnyT.takeAny 2 34 ?_ rfl (by kernel_rfl) (by kernel_rfl) (by kernel_rfl) rfl rfl (fun _ _ _ _ h => h) rfl ?_ (by assumption) ?_); rotate_left; (intro w; go_simp; (try (with_reducible rfl))); simp only [Act.put, List.setIfInBounds_toArray, List.set_cons_zero, List.set_cons_succ])
      ((refine AnyT.takeAny 3 35 ?_ rfl (by kernel_rfl) (by kernel_rfl) (by kernel_rfl) rfl rfl (fun _ _ _ _ h => h) rfl ?_ (by assumption) ?_); rotate_left; (intro w; go_simp; (try (with_reducible rfl))); simp only [Act.put, List.setIfInBounds_toArray, List.set_cons_zero, List.set_cons_succ])
      refine AnyT.takeAny 4 36 (.int .i64 sh) rfl (by kernel_rfl) (by kernel_rfl) (by kernel_rfl) rfl rfl (fun _ _ _ _ h => h) rfl (fun W => by go_simp) (by assumption) ?_
      simp only [Act.put, List.setIfInBounds_toArray, List.set_cons_zero, List.set_cons_succ]
      refine AnyT.takeAny 5 37 (.string (LB.extract 0 sh)) rfl (by kernel_rfl) (by kernel_rfl) (by kernel_rfl) rfl rfl (fun _ _ _ _ h => h) rfl (fun W => by go_simp) (by assumption) ?_
      simp only [Act.put, List.setIfInBounds_toArray, List.set_cons_zero, List.set_cons_succ]
      ((refine AnyT.takeAny 6 38 ?_ rfl (by kernel_rfl) (by kernel_rfl) (by kernel_rfl) rfl rfl (fun _ _ _ _ h => h) rfl ?_ (by assumption) ?_); rotate_left; (intro w; go_simp; (try (with_reducible rfl))); simp only [Act.put, List.setIfInBounds_toArray, List.set_cons_zero, List.set_cons_succ])
      ((refine AnyT.takeAny 7 39 ?_ rfl (by kernel_rfl) (by kernel_rfl) (by kernel_rfl) rfl rfl (fun _ _ _ _ h => h) rfl ?_ (by assumption) ?_); rotate_left; (intro w; go_simp; (try (with_reducible rfl))); simp only [Act.put, List.setIfInBounds_toArray, List.set_cons_zero, List.set_cons_succ])
      ((refine AnyT.one (i := 8) (by kernel_rfl) rfl (fun K hK => ?_)))
      go_simp
      refine HO2.out.mono ?_
      rintro e5 w5 ⟨rfl, h5, ho5, hz5⟩
      go_simp
      have H5 := Lib.hid h5
      refine hK.out _ _ trivial (fun hHeld => ?_)
      clear hK K h5 ho5 hz5 HO2 H4
      (try simp only [Act.put, List.setIfInBounds_toArray, List.set_cons_zero, List.set_cons_succ])
      have HO3 := Lib.hid (H5.out.take (a := D) (l := l2) rfl (by show (D ++ l2).toArray.size ≤ _; rw [List.size_toArray, List.length_append]; omega))
      rw [← HDB.out] at HO3
      ((refine AnyT.one (i := 9) (by kernel_rfl) rfl (fun K hK => ?_)))
      go_simp
      refine HO3.out.mono ?_
      rintro e6 w6 ⟨rfl, h6, ho6, hz6⟩
      go_simp
      have H6 := Lib.hid h6
      refine hK.out _ _ trivial (fun hHeld => ?_)
      clear hK K h6 ho6 hz6 HO3 H5
      (try simp only [Act.put, List.setIfInBounds_toArray, List.set_cons_zero, List.set_cons_succ])
      refine AnyT.takeAny 10 42 (.string (LB.extract 0 sh ++ DB)) rfl (by kernel_rfl) (by kernel_rfl) (by kernel_rfl) rfl rfl (fun _ _ _ _ h => h) rfl (fun W => by go_simp; omega) (by assumption) ?_
      simp only [Act.put, List.setIfInBounds_toArray, List.set_cons_zero, List.set_cons_succ]
      ((refine AnyT.takeAny 11 9 ?_ rfl (by kernel_rfl) (by kernel_rfl) (by kernel_rfl) rfl rfl (fun _ _ _ _ h => h) rfl ?_ (by assumption) ?_); rotate_left; (intro w; go_simp; (try (with_reducible rfl))); simp only [Act.put, List.setIfInBounds_toArray, List.set_cons_zero, List.set_cons_succ])
      refine AnyT.done (by kernel_rfl) ?_ _
      clear hHeld hcat hcat2 hmin
      generalize LB.extract 0 sh ++ DB = KB at *
      generalize LB.extract 0 sh = LB1 at *
      have HKM := Lib.hid (show KB = mkB KY by rw [← HKB.out]; exact (mkB_self KB).symm)
      have hKs : KB.size ≤ 237 := by
        have h1 : KB.data.toList.length = KB.size := by simp
        rw [HKB.out] at h1; omega
      have hP := keyPlace_any KB (by omega) w6 (HE.out.below H6.out.mov)
      rw [HKB.out, hplace] at hP
      have HP := Lib.hid hP
      clear hP hplace hDBs hshB hLBb
      go_wp2_with fail
      refine HP.out.mono ?_; rintro e7 w7 ⟨nm, v7, rfl, -, hv7, hb7⟩
      obtain ⟨rfl, hown7⟩ := hv7 _ _ rfl
      have hs7 := hb7.size
      obtain ⟨⟨A7, c7, rfl⟩, -⟩ := id hown7
      have HN7 := Lib.hid (strs_node X.name X.value hown7 hs7)
      have hbig := H6.out.big
      have HT7 := Lib.hid (H6.out.own.below hb7 (Nat.le_refl _))
      have H7 := Lib.hid (H6.out.below hb7)
      clear hv7 hown7 hb7 HP H6
      go_upto_region 8 with fail
      have hb8 := below_drewN' w7 1
      have H8 := Lib.hid (show UnpSt w w7.drew (mkB l2) B d ((ns.take k).map tyOf) from H7.out.below hb8)
      have HN8 := Lib.hid (show Own shNode w7.drew w6.heap.size w7.drew.heap.size [.string X.name, .slice A7 X.subs.length c7, .string X.value] (X.name, X.subs, X.value) from HN7.out.below hb8 (Nat.le_refl _))
      have HT8 := Lib.hid (show Own shTree w7.drew (w.heap.size + 3) w6.heap.size [.slice B ((ns.take k).map tyOf).length d] ((ns.take k).map tyOf) from HT7.out.below hb8 hs7)
      have hs8 : w6.heap.size ≤ w7.drew.heap.size := hs7
      clear hb8 HN7 HT7 H7 hs7
      refine AnyT.region (fun i => i == 12) (fun W => ∀ i, W.cell? ⟨w.heap.size + 1 + 1, i, none⟩ = (#[.slice B ((ns.take k).map tyOf).length d] : Array Value)[i]?) (by kernel_rfl) H8.out.var.cell (fun hHeld => ?_)
      generalize w7.drew = w8 at *
      have HO4 := Lib.hid (H8.out.one HL2.out (by omega) (by show l2.toArray.size ≤ _; rw [List.size_toArray]; omega))
      have htl : ((ns.take k).map tyOf).length = k := by rw [List.length_map, List.length_take]; omega
      have HTL := Lib.hid htl
      clear htl
      generalize hTE : (ns.take k).map tyOf = ts at *
      have HTE := Lib.hid hTE
      clear hTE
      ((refine AnyT.takeAny 0 49 ?_ rfl (by kernel_rfl) (by kernel_rfl) (by kernel_rfl) rfl rfl (fun _ _ _ _ h => h) rfl ?_ (by assumption) ?_); rotate_left; (intro w; go_simp; (try (with_reducible rfl))); simp only [Act.put, List.setIfInBounds_toArray, List.set_cons_zero, List.set_cons_succ])
      ((refine AnyT.take 1 50 ?_ rfl (by kernel_rfl) (by kernel_rfl) (by kernel_rfl) (by kernel_rfl) rfl (by kernel_rfl) rfl (fun _ _ _ _ h => h) rfl ?_ (by assumption) ?_); rotate_left; (intro w hSw; (try dsimp only at hSw); go_simp; (try (with_reducible rfl))); simp only [Act.put, List.setIfInBounds_toArray, List.set_cons_zero, List.set_cons_succ])
      ((refine AnyT.takeAny 2 51 ?_ rfl (by kernel_rfl) (by kernel_rfl) (by kernel_rfl) rfl rfl (fun _ _ _ _ h => h) rfl ?_ (by assumption) ?_); rotate_left; (intro w; go_simp; (try (with_reducible rfl))); simp only [Act.put, List.setIfInBounds_toArray, List.set_cons_zero, List.set_cons_succ])
      ((refine AnyT.takeAny 3 52 ?_ rfl (by kernel_rfl) (by kernel_rfl) (by kernel_rfl) rfl rfl (fun _ _ _ _ h => h) rfl ?_ (by assumption) ?_); rotate_left; (intro w; go_simp; (try (with_reducible rfl))); simp only [Act.put, List.setIfInBounds_toArray, List.set_cons_zero, List.set_cons_succ])
      ((refine AnyT.takeAny 4 53 ?_ rfl (by kernel_rfl) (by kernel_rfl) (by kernel_rfl) rfl rfl (fun _ _ _ _ h => h) rfl ?_ (by assumption) ?_); rotate_left; (intro w; go_simp; (try (with_reducible rfl))); simp only [Act.put, List.setIfInBounds_toArray, List.set_cons_zero, List.set_cons_succ])
      ((refine AnyT.takeAny 5 54 ?_ rfl (by kernel_rfl) (by kernel_rfl) (by kernel_rfl) rfl rfl (fun _ _ _ _ h => h) rfl ?_ (by assumption) ?_); rotate_left; (intro w; go_simp; (try (with_reducible rfl))); simp only [Act.put, List.setIfInBounds_toArray, List.set_cons_zero, List.set_cons_succ])
      ((refine AnyT.one (i := 6) (by kernel_rfl) rfl (fun K hK => ?_)))
      go_simp
      refine HO4.out.mono ?_
      rintro e9 w9 ⟨rfl, h9, ho9, hz9⟩
      go_simp
      have H9 := Lib.hid h9
      have HN9 := Lib.hid ((HN8.out.outOf ho9 (.inl (by omega))).more (Nat.le_refl _) (Nat.le_of_eq hz9.symm))
      have HT9 := Lib.hid (HT8.out.outOf ho9 (.inl (by omega)))
      refine hK.out _ _ h9.var.cell (fun hHeld => ?_)
      clear hK K h9 ho9 HO4 H8 HN8 HT8
      (try simp only [Act.put, List.setIfInBounds_toArray, List.set_cons_zero, List.set_cons_succ])
      have HO5 := Lib.hid (H9.out.take (a := V) (l := Z) rfl (by show (V ++ Z).toArray.size ≤ _; rw [List.size_toArray, List.length_append]; omega))
      rw [HV.out] at HO5
      ((refine AnyT.one (i := 7) (by kernel_rfl) rfl (fun K hK => ?_)))
      go_simp
      refine HO5.out.mono ?_
      rintro e10 w10 ⟨rfl, h10, ho10, hz10⟩
      go_simp
      have H10 := Lib.hid h10
      have HN10 := Lib.hid ((HN9.out.outOf ho10 (.inl (by omega))).more (Nat.le_refl _) (Nat.le_of_eq hz10.symm))
      have HT10 := Lib.hid (HT9.out.outOf ho10 (.inl (by omega)))
      refine hK.out _ _ h10.var.cell (fun hHeld => ?_)
      have hs10 : w6.heap.size ≤ w10.heap.size := by omega
      clear hK K h10 ho10 HO5 H9 HN9 HT9 hz9 hz10
      (try simp only [Act.put, List.setIfInBounds_toArray, List.set_cons_zero, List.set_cons_succ])
      ((refine AnyT.takeAny 8 57 ?_ rfl (by kernel_rfl) (by kernel_rfl) (by kernel_rfl) rfl rfl (fun _ _ _ _ h => h) rfl ?_ (by assumption) ?_); rotate_left; (intro w; go_simp; (try (with_reducible rfl))); simp only [Act.put, List.setIfInBounds_toArray, List.set_cons_zero, List.set_cons_succ])
      ((refine AnyT.one (i := 9) (by kernel_rfl) rfl (fun K hK => ?_)))
      go_simp
      have hba := (Below.refl w10.heap.size w10).alloc (Nat.le_refl _) (.cells #[.string X.name, .slice A7 X.subs.length c7, .string X.value] 32)
      refine hK.out _ _ (H10.out.below hba).var.cell (fun hHeld => ?_)
      clear hK K hba
      (try simp only [Act.put, List.setIfInBounds_toArray, List.set_cons_zero, List.set_cons_succ])
      ((refine AnyT.one (i := 10) (by kernel_rfl) rfl (fun K hK => ?_)))
      refine step_grow2 (s := shNode) rfl (.tmp 50) (.tmp 58) 24 rfl Tryz.underlying24 rfl (by decide) (by decide) infoNode w10 (w.heap.size + 3) w6.heap.size w6.heap.size w10.heap.size B ts.length d ts [.string X.name, .slice A7 X.subs.length c7, .string X.value] (X.name, X.subs, X.value) rfl HT10.out HN10.out (Nat.le_refl _) (by omega) (Nat.le_refl _) (by omega) rfl (by have := HTL.out; omega) ?_
      intro B7 d7 w12 ho12 hb12 hs12 hk12
      have hbig12 : w.heap.size + 3 ≤ w12.heap.size := Nat.le_trans H10.out.big hb12.size
      have hvar12 := H10.out.var.below hb12 (by omega)
      have H12 := Lib.hid (And.intro (H10.out.res.below hb12 (by omega)) (And.intro (H10.out.rd.below hb12 (by omega)) (And.intro hvar12 (H10.out.mov.trans (hb12.mono (by omega))))))
      have HO12 := Lib.hid ho12
      refine hK.out _ _ hvar12.cell (fun hHeld => ?_)
      clear hK K hb12 hk12 ho12 H10 HN10 HT10
      (try simp only [Act.put, List.setIfInBounds_toArray, List.set_cons_zero, List.set_cons_succ])
      ((refine AnyT.takeAny 11 60 ?_ rfl (by kernel_rfl) (by kernel_rfl) (by kernel_rfl) rfl rfl (fun _ _ _ _ h => h) rfl ?_ (by assumption) ?_); rotate_left; (intro w; go_simp; (try (with_reducible rfl))); simp only [Act.put, List.setIfInBounds_toArray, List.set_cons_zero, List.set_cons_succ])
      have z12 := hvar12.frozen 0
      have f12 := hvar12.cell
      ((refine AnyT.last (i := 12) (by kernel_rfl) rfl (by kernel_rfl) (fun K hK => ?_)))
      go_simp
      refine hK.out _ _ ?_
      clear hK K z12 f12 hvar12
      (try simp only [Act.put, List.setIfInBounds_toArray, List.set_cons_zero, List.set_cons_succ])
      refine AnyT.done (by kernel_rfl) ?_ _
      clear hHeld
      have hts : (ns.take (k + 1)).map tyOf = ts ++ [(X.name, X.subs, X.value)] := by
        rw [HTN.out, List.map_append, HTE.out]; rfl
      have h13 : UnpSt w (w12.setCell ⟨w.heap.size + 1 + 1, 0, none⟩ (.slice B7 (ts.length + 1) d7)) (mkB Z) B7 d7 ((ns.take (k + 1)).map tyOf) := by
        rw [hts]
        have hl : (ts ++ [(X.name, X.subs, X.value)]).length = ts.length + 1 := by rw [List.length_append]; rfl
        obtain ⟨q1, q2, q3, q4⟩ := H12.out
        have ho := (Out.refl [w.heap.size + 1 + 1] w12).setCell (p := ⟨w.heap.size + 1 + 1, 0, none⟩) (by simp) (.slice B7 (ts.length + 1) d7)
        refine ⟨q1.outOf ho (by omega), q2.outOf ho (by omega), ?_, ?_, q4.trans (ho.below1 (by omega) q4.size), by simpa using hbig12⟩
        · have := q3.set_ 0 (.slice B7 (ts.length + 1) d7)
          rw [hl]
          exact this
        · rw [hl]
          exact (Own.tree_set HO12.out q3 _).more (Nat.le_refl _) (by simp)
      have H13 := Lib.hid h13
      clear h13 hts
      generalize w12.setCell ⟨w.heap.size + 1 + 1, 0, none⟩ (.slice B7 (ts.length + 1) d7) = w13 at *
      have m1 : ((m + 1 : Nat) : Int) - 1 = (m : Int) := by omega
      go_wp2_with fail
      go_roundw
      case rel => exact ⟨k + 1, B7, d7, mkB Z, by omega, by rw [HM.out], by rw [HLN.out, HKM.out], by rw [HLN.out, ← HZ.out]; exact Lib.hid rfl, H13.out⟩
      case measure => simp [intOf]
    · obtain rfl : k = ns.length := by omega
      rw [Nat.sub_self]
      have i1 : ¬ (0 : Int) < ((0 : Nat) : Int) := by omega
      have hTk : (ns.take ns.length).map tyOf = ns.map tyOf := by rw [List.take_length]
      rw [hTk] at hst
      have hback : (ns.map tyOf).map nodOf = ns := map_nodOf ns
      have hml : (ns.map tyOf).length = ns.length := List.length_map ..
      have hTR := treR_own hst.own.reads
      rw [hback, hml] at hTR
      have HPT := Lib.hid (packTree_any ns (.agg #[.slice B ns.length d]) _ _ wr hTR (Nat.le_refl _) HSM.out (HE.out.below hst.mov))
      rw [← HSP.out] at HPT
      have HST := Lib.hid hst
      have f5 := hst.var.cell
      rw [hml] at f5
      have HML := Lib.hid hml
      clear hTk hback hml hTR hst hrest hk hlt
      go_wp2_with fail
      refine HPT.out.mono ?_; rintro e3 w3 ⟨rfl, hb3⟩
      have H3 := Lib.hid (HST.out.below hb3)
      clear hb3 HST HPT fb f5
      have f5 := H3.out.var.cell
      have f0 := H3.out.res.cell
      have z0 := H3.out.res.frozen 0
      rw [HML.out] at f5
      go_wp2_with fail
      have hb4 := (((Out.refl [w.heap.size] w3).setCell (p := ⟨w.heap.size, 0, none⟩) (by simp) (.slice B ns.length d)).below1 (Nat.le_refl _) H3.out.mov.size)
      have hr4 := H3.out.res.set_ 0 (.slice B ns.length d)
      have ho4 := Own.tree_set (i := 0) H3.out.own H3.out.res (.slice B ns.length d)
      rw [HML.out] at ho4
      have hmv := H3.out.mov.trans hb4
      have hz4 : (w3.setCell ⟨w.heap.size, 0, none⟩ (.slice B ns.length d)).heap.size = w3.heap.size := by simp
      clear f0 f5 z0 qS hb4
      generalize w3.setCell ⟨w.heap.size, 0, none⟩ (.slice B ns.length d) = w4 at *
      (try simp only [Exit.inBlock, Exit.then])
      refine bodyPost_ret (results_ct (fn := Tryz.f21) (p := 2) (q := 3) (ty := 26) Tryz.results21 _ w4 w.heap.size 26 #[.slice B ns.length d] (0, 0) _ rfl hr4 Tryz.underlying26 rfl (by kernel_rfl)) rfl ⟨⟨B, d, rfl, ?_⟩, hmv⟩
      exact ho4.more (by omega) (by omega)
end Go.Proofs.YtfibjcaidnofmaaGreatDoor

