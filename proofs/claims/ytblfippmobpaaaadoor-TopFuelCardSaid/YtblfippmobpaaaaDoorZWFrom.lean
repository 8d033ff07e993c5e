/- What the rounds of relaxing do, whatever the order of the map, printed by a program of mine. -/
import Derived.Test.YtblfippmobpaaaaDoorProg
import Derived.Test.YtblfippmobpaaaaDoorZGWFacts
import Derived.Test.YtblfippmobpaaaaDoorZGFxCopy
import Derived.KernelRfl
set_option linter.unusedVariables false
set_option linter.unusedSimpArgs false
namespace Go.Proofs.YtblfippmobpaaaaDoor.Fr
open Go Go.Fx Go.Proofs Go.Tally
theorem in146:infoOf Tryd.prog 146=some (some (Value.agg #[I 0,I 0,I 0,I 0,I 0,I 0,I 0,I 0,I 0]),9,72):=by kernel_rfl
theorem ty146:aggOf Tryd.prog 146=some true:=by kernel_rfl
theorem sz146:sizOf Tryd.prog 146=some 9:=by kernel_rfl
theorem fl89_0:fldOf Tryd.prog 89 0=some 0:=by kernel_rfl
theorem fl35_0:fldOf Tryd.prog 35 0=some 0:=by kernel_rfl
theorem ty3:aggOf Tryd.prog 3=some false:=by kernel_rfl
theorem fu76:funOf Tryd.prog 76=true:=by kernel_rfl
theorem ty89:aggOf Tryd.prog 89=some true:=by kernel_rfl
theorem sz89:sizOf Tryd.prog 89=some 4:=by kernel_rfl
theorem fu89:funOf Tryd.prog 89=true:=by kernel_rfl
theorem fu103:funOf Tryd.prog 103=true:=by kernel_rfl
theorem ar146:arrOf Tryd.prog 146=some (9,1):=by kernel_rfl
theorem sz3:sizOf Tryd.prog 3=some 1:=by kernel_rfl
theorem fl89_1:fldOf Tryd.prog 89 1=some 3:=by kernel_rfl
theorem ty87:aggOf Tryd.prog 87=some false:=by kernel_rfl
theorem mt87:mptOf Tryd.prog 87=some (141,3):=by kernel_rfl
theorem in141:infoOf Tryd.prog 141=some (some (Value.agg #[I 0,I 0]),2,16):=by kernel_rfl
theorem sz141:sizOf Tryd.prog 141=some 2:=by kernel_rfl
theorem ty141:aggOf Tryd.prog 141=some true:=by kernel_rfl
theorem eq141:eqOk Tryd.prog 141 [.int .i64,.int .i64]:=⟨by kernel_rfl,by kernel_rfl,by kernel_rfl⟩
theorem fl141_0:fldOf Tryd.prog 141 0=some 0:=by kernel_rfl
theorem fl141_1:fldOf Tryd.prog 141 1=some 1:=by kernel_rfl
theorem mixed:Tryd.prog.follows .mixedOrders=true:=by kernel_rfl
set_option maxRecDepth 100000 in
theorem none_ok  (w:World):Calls Tryd.prog 76 #[] w fun en w_=>∃ v_,en=.returned v_∧v_=.agg (ivs zeros).toArray∧Keep0 w w_:=by
 refine fn_of (n:=3) Tryd.func76 rfl rfl (Nat.le_of_ble_eq_true rfl) ?_
 have S:St w (fun _=>False) w [] []:=St.start w _ _ (fun _ h_=>(List.not_mem_nil h_).elim)
 refine c_seq ?_
 refine reg ?_
 refine o_alloc in146 (rfl:_=(ivs (List.replicate 9 0)).toArray) S fun b1 w2 hb1 S3=>?_
 replace S3:St w (fun _=>False) w2 [bx b1 (.cells (ivs (List.replicate 9 0)).toArray 146)] []:=S3
 refine wp_nil ?_
 refine c_seq ?_
 refine reg ?_
 refine o_alloc in146 (rfl:_=(ivs (List.replicate 9 0)).toArray) S3 fun b4 w5 hb4 S6=>?_
 replace S6:St w (fun _=>False) w5 [bx b4 (.cells (ivs (List.replicate 9 0)).toArray 146),bx b1 (.cells (ivs (List.replicate 9 0)).toArray 146)] []:=S6
 refine wp_nil ?_
 refine c_seq ?_
 refine reg ?_
 refine o_ldN (cs:=ivs (List.replicate 9 0)) (rfl:_=P b4 0) ty146 sz146 ((ivs_len _).trans (show (List.replicate 9 0:List Int).length=9 from List.length_replicate ..)) (ivs_cells (S6.at (i:=0) rfl)) ?_
 refine o_sto (vs:=ivs (List.replicate 9 0)) (rfl:_=P b1 0) (rfl:_=Value.agg (ivs (List.replicate 9 0)).toArray) rfl sz146 ((ivs_len _).trans (show (List.replicate 9 0:List Int).length=9 from List.length_replicate ..)) ivs_one S6 (i:=1) rfl (by have h1_:=(show (List.replicate 9 0:List Int).length=9 from List.length_replicate ..); have h2_:=(show (List.replicate 9 0:List Int).length=9 from List.length_replicate ..); simp only [ivs_len,List.size_toArray]; omega) (ivs_put (Eq.trans (show (List.replicate 9 0:List Int).length=9 from List.length_replicate ..) (Eq.symm (show (List.replicate 9 0:List Int).length=9 from List.length_replicate ..)))) fun w7 S8=>?_
 replace S8:St w (fun _=>False) w7 [bx b4 (.cells (ivs (List.replicate 9 0)).toArray 146),bx b1 (.cells (ivs (List.replicate 9 0)).toArray 146)] []:=S8
 refine wp_nil ?_
 refine c_ret ?_
 show bodyPostM (Fr none) 0 Tryd.prog Tryd.f76 _ .ret _ _
 refine (ret_of (res1 rfl (rvN (cs:=ivs (List.replicate 9 0)) (rfl:_=P b1 0) ty146 sz146 ((ivs_len _).trans (show (List.replicate 9 0:List Int).length=9 from List.length_replicate ..)) (ivs_cells (S8.at (i:=1) rfl)))) ?_)
 exact ⟨_,rfl,by rfl,S8.keep⟩
set_option maxRecDepth 100000 in
theorem places_ok (t r:Int) (A:Option Addr) (n c m:Nat) (w:World):Calls Tryd.prog 89 #[Value.agg #[I t,I r,Value.slice A n c,Value.map (some m)]] w fun en w_=>∃ v,en=.returned v∧∃ b,v=.func (.func 103) #[] #[.pointer (some ⟨b,0,none⟩)]∧Keep0 w w_∧((bx b (.cells #[I t,I r,Value.slice A n c,Value.map (some m)] 89)).ok w_∧New w.heap.size (bx b (.cells #[I t,I r,Value.slice A n c,Value.map (some m)] 89))):=by
 refine fn_of (n:=4) Tryd.func89 rfl rfl (Nat.le_of_ble_eq_true rfl) ?_
 have S:St w (fun _=>False) w [] []:=St.start w _ _ (fun _ h_=>(List.not_mem_nil h_).elim)
 refine c_seq ?_
 refine reg ?_
 refine o_box (rfl:_=Value.agg #[I t,I r,Value.slice A n c,Value.map (some m)]) rfl S fun b9 w10 hb9 S11=>?_
 replace S11:St w (fun _=>False) w10 [bx b9 (.cells #[I t,I r,Value.slice A n c,Value.map (some m)] 89)] []:=S11
 refine o_asg (rfl:_=Value.nilFunc) ?_
 refine wp_nil ?_
 refine c_seq ?_
 refine reg ?_
 refine o_fun (rfl:_=[]) (rfl:_=[P b9 0]) ?_
 refine o_asg (rfl:_=Value.func (.func 103) #[] #[P b9 0]) ?_
 refine wp_nil ?_
 refine c_ret ?_
 show bodyPostM (Fr none) 0 Tryd.prog Tryd.f89 _ .ret _ _
 refine (ret_of (res1 rfl (rvT (rfl:_=Value.func (.func 103) #[] #[P b9 0]))) ?_)
 exact ⟨_,rfl,_,rfl,S11.keep,S11.atX (i:=0) rfl,fun b_ hb_=>(S11.own _ (List.mem_of_getElem? (i:=0) rfl) b_ hb_).resolve_right id⟩
def placesL (t:Int):List (Array Value):=(List.range (t+1).toNat).map fun i:Nat=>#[I (i:Int)]
theorem placesL_at {t:Int}{i:Nat}{xa:Array Value} (h:(placesL t)[i]? =some xa):i < (t+1).toNat∧xa=#[I (i:Int)]:=by
 unfold placesL at h
 rw [List.getElem?_map] at h
 obtain ⟨j,hj,rfl⟩:=Option.map_eq_some_iff.1 h
 obtain ⟨h1,h2⟩:=List.getElem?_eq_some_iff.1 hj
 simp at h1 h2
 subst h2
 exact ⟨by omega,rfl⟩
theorem placesL_len (t:Int):(placesL t).length=(t+1).toNat:=by simp [placesL]
theorem placesL_get {t:Int}{i:Nat} (h:i < (t+1).toNat):(placesL t)[i]? =some #[I (i:Int)]:=by simp [placesL,h]
set_option maxRecDepth 100000 in
theorem places_iter (t r:Int) (A_:Option Addr) (n c m b:Nat) (w:World) (h0:0≤t) (h8:t≤8):IterAt Tryd.prog 103 #[] #[.pointer (some ⟨b,0,none⟩)] (placesL t) w [bx b (.cells #[.int .i64 t,.int .i64 r,.slice A_ n c,.map (some m)] 89)]:=by
 intro l G Gx A0 hG0 hA hK hd hy
 refine fn_of (n:=16) Tryd.func103 rfl rfl (Nat.le_of_ble_eq_true rfl) ?_
 have S:St w (A0).fp w [A0] [bx b (.cells #[I t,I r,Value.slice A_ n c,Value.map (some m)] 89)]:=St.startX _ hA (List.forall_mem_cons.2 ⟨(hK _ (List.mem_cons_self ..)),(fun _ h_=>(List.not_mem_nil h_).elim)⟩) (hd)
 refine c_seq ?_
 refine reg ?_
 refine o_fld (rfl:_=P b 0) fl89_0 (rfl:_=0) ?_
 refine o_fld (rfl:_=P b 0) fl35_0 (rfl:_=0) ?_
 refine o_ld1 (rfl:_=P b 0) ty3 ((cell_of (S.atP (i:=0) rfl) 0).trans (rfl:_=some (I t))) ?_
 refine o_add (rfl:_=I t) (rfl:_=I 1) (w64 (by omega) (by omega):_=t+1) ?_
 refine o_mov (rfl:_=I 0) ?_
 refine wp_nil ?_
 refine c_block ?_
 refine c_loop (α:=Nat×Asr) (fun (x_:Nat×Asr)=>match x_ with | (i,A)=>[(0,Value.func (.yield l) #[] #[]),(7,I (t+1)),(8,I (i:Int))]) (fun (x_:Nat×Asr) (w_:World)=>match x_ with | (i,A)=>(i≤(t+1).toNat)∧(G i A)∧St w (A0).fp w_ [A] [bx b (.cells #[I t,I r,Value.slice A_ n c,Value.map (some m)] 89)]) (fun (x_:Nat×Asr)=>match x_ with | (i,A)=>(t+1).toNat - i) (0,A0) ⟨rfl,rfl,rfl,trivial⟩ ⟨Nat.zero_le _,hG0,S⟩ ?_
 rintro ⟨i,A⟩ e14 w12 ⟨hi,hG,S13⟩
 replace S13:St w (A0).fp w12 [A] [bx b (.cells #[I t,I r,Value.slice A_ n c,Value.map (some m)] 89)]:=S13
 refine c_seq ?_
 refine reg ?_
 refine o_cmp (rfl:_=I (i:Int)) (rfl:_=I (t+1)) (rfl:_=some (decide ((i:Int) < (t+1)))) ?_
 refine wp_nil ?_
 refine c_seq ?_
 refine c_cond (rfl:_=B (decide ((i:Int) < (t+1)))) (fun c15=>?_) (fun c15=>?_)
 ·have c15p:=of_decide_eq_true c15
  refine c_skip ?_
  refine c_seq ?_
  refine c_block ?_
  refine c_seq ?_
  refine reg ?_
  refine o_mov (rfl:_=I (i:Int)) ?_
  refine o_asg (rfl:_=I (i:Int)) ?_
  refine wp_nil ?_
  refine c_seq ?_
  refine reg ?_
  refine o_mov (rfl:_=Value.func (.yield l) #[] #[]) ?_
  refine o_mov (rfl:_=I (i:Int)) ?_
  refine o_yieldX (k:=i) (j:=0) (args:=[I (i:Int)]) (rfl:_=Value.func (.yield l) #[] #[]) rfl S13 rfl (hy i _ A _ (placesL_get (by omega)) hG (S13.atX (i:=0) rfl) S13.keep (fun b_ hb_=>(S13.own _ (List.mem_of_getElem? (i:=0) rfl) b_ hb_).symm)) (fun A16 w18 hG22 S20=>?_) (fun A17 w19 hG23 S21=>?_)
  ·replace S20:St w (A0).fp w18 [A16] [bx b (.cells #[I t,I r,Value.slice A_ n c,Value.map (some m)] 89)]:=S20
   refine o_not (rfl:_=B true) ?_
   refine wp_nil ?_
   refine c_false (rfl:_=B false) ?_
   refine c_skip ?_
   refine reg ?_
   refine o_add (rfl:_=I (i:Int)) (rfl:_=I 1) (w64 (by omega) (by omega):_=(i:Int)+1) ?_
   refine o_mov (rfl:_=I ((i:Int)+1)) ?_
   refine wp_nil ?_
   exact ⟨(i+1,A16),_,rfl,⟨rfl,rfl,rfl,trivial⟩,⟨by omega,hG22,S20⟩,by simp; omega⟩
  ·replace S21:St w (A0).fp w19 [A17] [bx b (.cells #[I t,I r,Value.slice A_ n c,Value.map (some m)] 89)]:=S21
   refine o_not (rfl:_=B false) ?_
   refine wp_nil ?_
   refine c_true (rfl:_=B true) ?_
   refine c_ret ?_
   show bodyPostM (Fr none) 0 Tryd.prog Tryd.f103 _ .ret _ _
   refine (ret_of (res0 rfl) ?_)
   exact ⟨_,rfl,S21.keep,A17,S21.atX (i:=0) rfl,fun b_ hb_=>(S21.own _ (List.mem_of_getElem? (i:=0) rfl) b_ hb_).symm,.inr hG23⟩
 ·have c15p:=of_decide_eq_false c15
  refine c_exit ?_
  show bodyPostM (Fr none) 0 Tryd.prog Tryd.f103 _ .normal _ _
  refine end_of (res0 rfl) ?_
  exact ⟨_,rfl,S13.keep,A,S13.atX (i:=0) rfl,fun b_ hb_=>(S13.own _ (List.mem_of_getElem? (i:=0) rfl) b_ hb_).symm,.inl (by rw [placesL_len,show (t+1).toNat=i by omega]; exact hG)⟩
set_option maxRecDepth 100000 in
theorem from_ok (t r start:Int) (A:Option Addr) (n c m:Nat) (ml:List Ent) (w:World) (hm:(mp ekP iE m ml).ok w) (hk:∀ x∈ml,0≤x.1.1∧x.1.1≤t∧0≤x.1.2∧x.1.2≤t) (h0:0≤t) (h8:t≤8) (hs0:0≤start) (hst_:start≤t) (hg1:(bx 3 (.cells #[I (-1),I (-1)] 141)).ok w):Calls Tryd.prog 73 #[Value.agg #[I t,I r,Value.slice A n c,Value.map (some m)],I start] w fun en w_=>∃ v,en=.returned v∧∃ out res,v=.tuple #[.agg (ivs out).toArray,.bool res]∧Keep0 w w_∧FromR t start ml out res:=by
 refine fn_of (n:=90) Tryd.func73 rfl rfl (Nat.le_of_ble_eq_true rfl) ?_
 obtain ⟨es,clock,hh,rfl,hst⟩:=hm
 have S:St w (fun _=>False) w [] [bx m (mapO ekP iE es clock),bx 3 (.cells #[I (-1),I (-1)] 141)]:=St.start w _ _ (List.forall_mem_cons.2 ⟨hh,(List.forall_mem_cons.2 ⟨hg1,(fun _ h_=>(List.not_mem_nil h_).elim)⟩)⟩)
 refine c_seq ?_
 refine reg ?_
 refine o_box (rfl:_=Value.agg #[I t,I r,Value.slice A n c,Value.map (some m)]) rfl S fun b24 w25 hb24 S26=>?_
 replace S26:St w (fun _=>False) w25 [bx b24 (.cells #[I t,I r,Value.slice A n c,Value.map (some m)] 89)] [bx m (mapO ekP iE es clock),bx 3 (.cells #[I (-1),I (-1)] 141)]:=S26
 refine o_box (rfl:_=I start) rfl S26 fun b27 w28 hb27 S29=>?_
 replace S29:St w (fun _=>False) w28 [bx b27 (.cells #[I start] 3),bx b24 (.cells #[I t,I r,Value.slice A n c,Value.map (some m)] 89)] [bx m (mapO ekP iE es clock),bx 3 (.cells #[I (-1),I (-1)] 141)]:=S29
 refine o_alloc in146 (rfl:_=(ivs (List.replicate 9 0)).toArray) S29 fun b30 w31 hb30 S32=>?_
 replace S32:St w (fun _=>False) w31 [bx b30 (.cells (ivs (List.replicate 9 0)).toArray 146),bx b27 (.cells #[I start] 3),bx b24 (.cells #[I t,I r,Value.slice A n c,Value.map (some m)] 89)] [bx m (mapO ekP iE es clock),bx 3 (.cells #[I (-1),I (-1)] 141)]:=S32
 refine o_asg (rfl:_=B false) ?_
 refine wp_nil ?_
 refine c_scope ?_
 refine c_seq ?_
 refine reg ?_
 refine o_call (g:=_) (first:=#[]) (caps:=#[]) (args:=[]) rfl rfl fu76 rfl (none_ok _) ?_
 rintro _ w33 ⟨rfl,k35⟩
 have S34:=S32.call k35
 refine o_alloc in146 (rfl:_=(ivs (List.replicate 9 0)).toArray) S34 fun b36 w37 hb36 S38=>?_
 replace S38:St w (fun _=>False) w37 [bx b36 (.cells (ivs (List.replicate 9 0)).toArray 146),bx b30 (.cells (ivs (List.replicate 9 0)).toArray 146),bx b27 (.cells #[I start] 3),bx b24 (.cells #[I t,I r,Value.slice A n c,Value.map (some m)] 89)] [bx m (mapO ekP iE es clock),bx 3 (.cells #[I (-1),I (-1)] 141)]:=S38
 refine o_sto (vs:=ivs zeros) (rfl:_=P b36 0) (rfl:_=Value.agg (ivs zeros).toArray) rfl sz146 ((ivs_len _).trans (show (zeros:List Int).length=9 from rfl)) ivs_one S38 (i:=0) rfl (by have h1_:=(show (List.replicate 9 0:List Int).length=9 from List.length_replicate ..); have h2_:=(show (zeros:List Int).length=9 from rfl); simp only [ivs_len,List.size_toArray]; omega) (ivs_put (Eq.trans (show (List.replicate 9 0:List Int).length=9 from List.length_replicate ..) (Eq.symm (show (zeros:List Int).length=9 from rfl)))) fun w39 S40=>?_
 replace S40:St w (fun _=>False) w39 [bx b36 (.cells (ivs zeros).toArray 146),bx b30 (.cells (ivs (List.replicate 9 0)).toArray 146),bx b27 (.cells #[I start] 3),bx b24 (.cells #[I t,I r,Value.slice A n c,Value.map (some m)] 89)] [bx m (mapO ekP iE es clock),bx 3 (.cells #[I (-1),I (-1)] 141)]:=S40
 refine wp_nil ?_
 refine c_seq ?_
 refine c_seq ?_
 refine reg ?_
 refine o_ldN (cs:=[I t,I r,Value.slice A n c,Value.map (some m)]) (rfl:_=P b24 0) ty89 sz89 rfl (box_cells (S40.at (i:=3) rfl) (o:=0) rfl) ?_
 refine o_call (g:=_) (first:=#[]) (caps:=#[]) (args:=[Value.agg #[I t,I r,Value.slice A n c,Value.map (some m)]]) rfl rfl fu89 rfl (places_ok t r A n c m _) ?_
 rintro _ w41 ⟨b44,rfl,k43,⟨a45,n46⟩⟩
 have S42:=S40.addL k43 a45 n46
 replace S42:St w (fun _=>False) w41 [bx b36 (.cells (ivs zeros).toArray 146),bx b30 (.cells (ivs (List.replicate 9 0)).toArray 146),bx b27 (.cells #[I start] 3),bx b24 (.cells #[I t,I r,Value.slice A n c,Value.map (some m)] 89)] [bx b44 (.cells #[I t,I r,Value.slice A n c,Value.map (some m)] 89),bx m (mapO ekP iE es clock),bx 3 (.cells #[I (-1),I (-1)] 141)]:=S42
 refine wp_nil ?_
 refine c_block ?_
 refine c_range (α:=Nat) (fun i_ x_=>x_=i_) (fun _ _=>False) (fun x_=>[bx b36 (.cells (ivs (initO start x_)).toArray 146),bx b30 (.cells (ivs (List.replicate 9 0)).toArray 146),bx b27 (.cells #[I start] 3),bx b24 (.cells #[I t,I r,Value.slice A n c,Value.map (some m)] 89)]) 0 (rfl:_=Value.func (.func 103) #[] #[P b44 0]) fu103 S42 rfl (by simp only [initO_zero]) (fun w_=>places_iter t r A n c m b44 w_ (by omega) (by omega)) (fun p_ hp_=>by rw [List.mem_singleton.1 hp_]; exact List.mem_of_getElem? (i:=0) rfl) ?_ ?_ (fun _ _ _ _ _ _ h_=>h_.elim)
 ·intro fn53 l51 D52 i47 xa48 y_ w49 hx54 hy_ S50
  replace hy_:=hy_.symm
  subst hy_
  obtain ⟨hi55,rfl⟩:=placesL_at hx54
  refine ⟨rfl,?_⟩
  replace S50:St w49 _ w49 [_,bx b36 (.cells (ivs (initO start i47)).toArray 146),bx b30 (.cells (ivs (List.replicate 9 0)).toArray 146),bx b27 (.cells #[I start] 3),bx b24 (.cells #[I t,I r,Value.slice A n c,Value.map (some m)] 89)] [bx b44 (.cells #[I t,I r,Value.slice A n c,Value.map (some m)] 89),bx m (mapO ekP iE es clock),bx 3 (.cells #[I (-1),I (-1)] 141)]:=S50
  refine reg ?_
  refine o_asg (rfl:_=I (i47:Int)) ?_
  refine wp_nil ?_
  refine rr_begin S50 (k:=0) rfl fun w56 S57=>?_
  replace S57:St w49 _ w56 [_,bx b36 (.cells (ivs (initO start i47)).toArray 146),bx b30 (.cells (ivs (List.replicate 9 0)).toArray 146),bx b27 (.cells #[I start] 3),bx b24 (.cells #[I t,I r,Value.slice A n c,Value.map (some m)] 89)] [bx b44 (.cells #[I t,I r,Value.slice A n c,Value.map (some m)] 89),bx m (mapO ekP iE es clock),bx 3 (.cells #[I (-1),I (-1)] 141)]:=S57
  refine c_block ?_
  refine c_seq ?_
  refine reg ?_
  refine o_mov (rfl:_=I (i47:Int)) ?_
  refine o_ld1 (rfl:_=P b27 0) ty3 ((cell_of (S57.at (i:=3) rfl) 0).trans (rfl:_=some (I start))) ?_
  refine o_cmp (rfl:_=I (i47:Int)) (rfl:_=I start) (rfl:_=some ((i47:Int) != start)) ?_
  refine wp_nil ?_
  refine c_cond (rfl:_=B ((i47:Int) != start)) (fun c58=>?_) (fun c58=>?_)
  ·have c58p:¬((i47:Int)=start):=by simpa using c58
   refine reg ?_
   refine o_mov (rfl:_=I (i47:Int)) ?_
   refine o_ixA (rfl:_=P b36 0) (rfl:_=I (i47:Int)) ar146 (by omega) (by omega) (by simp:_=i47) ?_
   refine o_sto (rfl:_=P b36 i47) (rfl:_=I 481) rfl sz3 rfl rfl S57 (i:=1) rfl (by have h1_:=(show (initO start i47:List Int).length=9 from (initO_len _ _)); show _+1≤_; simp only [List.size_toArray,ivs_len]; omega) ivs_set fun w59 S60=>?_
   replace S60:St w49 _ w59 [_,bx b36 (.cells (ivs ((initO start i47).set i47 481)).toArray 146),bx b30 (.cells (ivs (List.replicate 9 0)).toArray 146),bx b27 (.cells #[I start] 3),bx b24 (.cells #[I t,I r,Value.slice A n c,Value.map (some m)] 89)] [bx b44 (.cells #[I t,I r,Value.slice A n c,Value.map (some m)] 89),bx m (mapO ekP iE es clock),bx 3 (.cells #[I (-1),I (-1)] 141)]:=S60
   refine wp_nil ?_
   have e_:(initO start i47).set i47 481=initO start (i47+1):=initO_set c58p
   have S61:St w49 _ w59 [_,bx b36 (.cells (ivs (initO start (i47+1))).toArray 146),bx b30 (.cells (ivs (List.replicate 9 0)).toArray 146),bx b27 (.cells #[I start] 3),bx b24 (.cells #[I t,I r,Value.slice A n c,Value.map (some m)] 89)] [bx b44 (.cells #[I t,I r,Value.slice A n c,Value.map (some m)] 89),bx m (mapO ekP iE es clock),bx 3 (.cells #[I (-1),I (-1)] 141)]:=S60.reX (by first | (rw [e_]; done) | (rw [e_]; rfl))
   exact rr_next (a:=⟨#[],[]⟩) (y' :=i47+1) S61 rfl
  ·have c58p:(i47:Int)=start:=by simpa using c58
   refine c_skip ?_
   have e_:initO start i47=initO start (i47+1):=(initO_skip c58p).symm
   have S62:St w49 _ w56 [_,bx b36 (.cells (ivs (initO start (i47+1))).toArray 146),bx b30 (.cells (ivs (List.replicate 9 0)).toArray 146),bx b27 (.cells #[I start] 3),bx b24 (.cells #[I t,I r,Value.slice A n c,Value.map (some m)] 89)] [bx b44 (.cells #[I t,I r,Value.slice A n c,Value.map (some m)] 89),bx m (mapO ekP iE es clock),bx 3 (.cells #[I (-1),I (-1)] 141)]:=S57.reX (by first | (rw [e_]; done) | (rw [e_]; rfl))
   exact rr_next (a:=⟨#[],[]⟩) (y' :=i47+1) S62 rfl
 ·intro l63 D64 o65 y66 w67 hy69 S68
  obtain rfl:y66=(t+1).toNat:=hy69.trans (placesL_len t)
  replace S68:St w (fun _=>False) w67 [bx l63 o65,bx D64 (.deferred (some [])),bx b36 (.cells (ivs (initO start ((t+1).toNat))).toArray 146),bx b30 (.cells (ivs (List.replicate 9 0)).toArray 146),bx b27 (.cells #[I start] 3),bx b24 (.cells #[I t,I r,Value.slice A n c,Value.map (some m)] 89)] [bx b44 (.cells #[I t,I r,Value.slice A n c,Value.map (some m)] 89),bx m (mapO ekP iE es clock),bx 3 (.cells #[I (-1),I (-1)] 141)]:=S68
  refine c_seq ?_
  refine c_label ?_
  refine c_seq ?_
  refine c_seq ?_
  refine reg ?_
  refine o_fld (rfl:_=P b24 0) fl89_0 (rfl:_=0) ?_
  refine o_fld (rfl:_=P b24 0) fl35_0 (rfl:_=0) ?_
  refine o_ld1 (rfl:_=P b24 0) ty3 ((cell_of (S68.at (i:=5) rfl) 0).trans (rfl:_=some (I t))) ?_
  refine o_add (rfl:_=I t) (rfl:_=I 2) (w64 (by omega) (by omega):_=t+2) ?_
  refine o_mov (rfl:_=I 0) ?_
  refine wp_nil ?_
  refine c_block ?_
  refine c_loop (α:=Nat×(List Int)) (fun (x_:Nat×(List Int))=>match x_ with | (i,o)=>[(2,P b24 0),(3,P b27 0),(4,P b30 0),(6,P b36 0),(25,I (t+2)),(26,I (i:Int))]) (fun (x_:Nat×(List Int)) (w_:World)=>match x_ with | (i,o)=>(i≤(t+2).toNat)∧(o.length=9)∧(∀ res,RoundsR start.toNat (ents es) ((t+2).toNat - i) o res→RoundsR start.toNat (ents es) (t+2).toNat (initO start (t+1).toNat) res)∧St w (fun _=>False) w_ [bx l63 o65,bx D64 (.deferred (some [])),bx b36 (.cells (ivs o).toArray 146),bx b30 (.cells (ivs (List.replicate 9 0)).toArray 146),bx b27 (.cells #[I start] 3),bx b24 (.cells #[I t,I r,Value.slice A n c,Value.map (some m)] 89)] [bx b44 (.cells #[I t,I r,Value.slice A n c,Value.map (some m)] 89),bx m (mapO ekP iE es clock),bx 3 (.cells #[I (-1),I (-1)] 141)]) (fun (x_:Nat×(List Int))=>match x_ with | (i,o)=>(t+2).toNat - i) (0,(initO start (t+1).toNat)) ⟨rfl,rfl,rfl,rfl,rfl,rfl,trivial⟩ ⟨Nat.zero_le _,initO_len _ _,(fun _ h_=>h_),S68⟩ ?_
  rintro ⟨i,o⟩ e72 w70 ⟨hi,ho,hR,S71⟩
  replace S71:St w (fun _=>False) w70 [bx l63 o65,bx D64 (.deferred (some [])),bx b36 (.cells (ivs o).toArray 146),bx b30 (.cells (ivs (List.replicate 9 0)).toArray 146),bx b27 (.cells #[I start] 3),bx b24 (.cells #[I t,I r,Value.slice A n c,Value.map (some m)] 89)] [bx b44 (.cells #[I t,I r,Value.slice A n c,Value.map (some m)] 89),bx m (mapO ekP iE es clock),bx 3 (.cells #[I (-1),I (-1)] 141)]:=S71
  refine c_seq ?_
  refine reg ?_
  refine o_cmp (rfl:_=I (i:Int)) (rfl:_=I (t+2)) (rfl:_=some (decide ((i:Int) < (t+2)))) ?_
  refine wp_nil ?_
  refine c_seq ?_
  refine c_cond (rfl:_=B (decide ((i:Int) < (t+2)))) (fun c73=>?_) (fun c73=>?_)
  ·have c73p:=of_decide_eq_true c73
   refine c_skip ?_
   refine c_seq ?_
   refine c_block ?_
   refine c_seq ?_
   refine reg ?_
   refine o_asg (rfl:_=B false) ?_
   refine wp_nil ?_
   refine c_seq ?_
   refine c_seq ?_
   refine reg ?_
   refine o_fld (rfl:_=P b24 0) fl89_1 (rfl:_=3) ?_
   refine o_ld1 (rfl:_=P b24 3) ty87 ((cell_of (S71.at (i:=5) rfl) 3).trans (rfl:_=some (Value.map (some m)))) ?_
   refine o_range (ek:=ekP) (ev:=iE) (rfl:_=Value.map (some m)) mt87 (S71.atP (i:=1) rfl) S71 fun r74 w75 hr74 S76=>?_
   replace S76:St w (fun _=>False) w75 [bx r74 (itO m clock []),bx l63 o65,bx D64 (.deferred (some [])),bx b36 (.cells (ivs o).toArray 146),bx b30 (.cells (ivs (List.replicate 9 0)).toArray 146),bx b27 (.cells #[I start] 3),bx b24 (.cells #[I t,I r,Value.slice A n c,Value.map (some m)] 89)] [bx b44 (.cells #[I t,I r,Value.slice A n c,Value.map (some m)] 89),bx m (mapO ekP iE es clock),bx 3 (.cells #[I (-1),I (-1)] 141)]:=S76
   refine wp_nil ?_
   refine c_block ?_
   refine c_loop (α:=(List (Nat×(Int×Int)×Int))) (fun (dn:List (Nat×(Int×Int)×Int))=>[(2,P b24 0),(3,P b27 0),(4,P b30 0),(6,P b36 0),(8,B ((relaxL o (ents dn)).2)),(25,I (t+2)),(26,I (i:Int)),(27,B true),(28,P b24 3),(29,Value.map (some m)),(30,P r74 0)]) (fun (dn:List (Nat×(Int×Int)×Int)) (w_:World)=>(∀ y∈dn,y∈es)∧((dn.map (·.1)).Nodup)∧St w (fun _=>False) w_ [bx r74 (itO m clock dn),bx l63 o65,bx D64 (.deferred (some [])),bx b36 (.cells (ivs ((relaxL o (ents dn)).1)).toArray 146),bx b30 (.cells (ivs (List.replicate 9 0)).toArray 146),bx b27 (.cells #[I start] 3),bx b24 (.cells #[I t,I r,Value.slice A n c,Value.map (some m)] 89)] [bx b44 (.cells #[I t,I r,Value.slice A n c,Value.map (some m)] 89),bx m (mapO ekP iE es clock),bx 3 (.cells #[I (-1),I (-1)] 141)]) (fun (dn:List (Nat×(Int×Int)×Int))=>es.length - dn.length) [] ⟨rfl,rfl,rfl,rfl,rfl,rfl,rfl,((rfl:_=B (decide ((i:Int) < (t+2)))).trans (congrArg B c73)),rfl,rfl,rfl,trivial⟩ ⟨(fun _ h_=>(List.not_mem_nil h_).elim),List.nodup_nil,S76⟩ ?_
   rintro dn e79 w77 ⟨hd1,hd2,S78⟩
   replace S78:St w (fun _=>False) w77 [bx r74 (itO m clock dn),bx l63 o65,bx D64 (.deferred (some [])),bx b36 (.cells (ivs ((relaxL o (ents dn)).1)).toArray 146),bx b30 (.cells (ivs (List.replicate 9 0)).toArray 146),bx b27 (.cells #[I start] 3),bx b24 (.cells #[I t,I r,Value.slice A n c,Value.map (some m)] 89)] [bx b44 (.cells #[I t,I r,Value.slice A n c,Value.map (some m)] 89),bx m (mapO ekP iE es clock),bx 3 (.cells #[I (-1),I (-1)] 141)]:=S78
   refine c_seq ?_
   refine reg ?_
   refine o_next (rfl:_=P r74 0) (S78.atP (i:=1) rfl) hst S78 (k:=0) rfl (fun y80 w83 hy81 hn82 S84=>?_) (fun w85 ha87 S86=>?_)
   ·have hke_:=hk y80.2 (List.mem_map_of_mem hy81)
    replace S84:St w (fun _=>False) w83 [bx r74 (itO m clock (dn++[y80])),bx l63 o65,bx D64 (.deferred (some [])),bx b36 (.cells (ivs ((relaxL o (ents dn)).1)).toArray 146),bx b30 (.cells (ivs (List.replicate 9 0)).toArray 146),bx b27 (.cells #[I start] 3),bx b24 (.cells #[I t,I r,Value.slice A n c,Value.map (some m)] 89)] [bx b44 (.cells #[I t,I r,Value.slice A n c,Value.map (some m)] 89),bx m (mapO ekP iE es clock),bx 3 (.cells #[I (-1),I (-1)] 141)]:=S84
    refine o_ext (rfl:_=Value.tuple #[B true,Value.agg #[I y80.2.1.1,I y80.2.1.2],I y80.2.2]) (rfl:_=some (B true)) ?_
    refine wp_nil ?_
    refine c_seq ?_
    refine c_true (rfl:_=B true) ?_
    refine c_skip ?_
    refine c_block ?_
    refine c_seq ?_
    refine reg ?_
    refine o_entry (rfl:_=P r74 0) (S84.atP (i:=1) rfl) hst hy81 S84 (k:=0) rfl ?_
    refine o_ext (rfl:_=Value.tuple #[Value.agg #[I y80.2.1.1,I y80.2.1.2],I y80.2.2]) (rfl:_=some (Value.agg #[I y80.2.1.1,I y80.2.1.2])) ?_
    refine o_ext (rfl:_=Value.tuple #[Value.agg #[I y80.2.1.1,I y80.2.1.2],I y80.2.2]) (rfl:_=some (I y80.2.2)) ?_
    refine o_alloc in141 rfl S84 fun b88 w89 hb88 S90=>?_
    replace S90:St w (fun _=>False) w89 [bx b88 (.cells #[I 0,I 0] 141),bx r74 (itO m clock (dn++[y80])),bx l63 o65,bx D64 (.deferred (some [])),bx b36 (.cells (ivs ((relaxL o (ents dn)).1)).toArray 146),bx b30 (.cells (ivs (List.replicate 9 0)).toArray 146),bx b27 (.cells #[I start] 3),bx b24 (.cells #[I t,I r,Value.slice A n c,Value.map (some m)] 89)] [bx b44 (.cells #[I t,I r,Value.slice A n c,Value.map (some m)] 89),bx m (mapO ekP iE es clock),bx 3 (.cells #[I (-1),I (-1)] 141)]:=S90
    refine o_sto (rfl:_=P b88 0) (rfl:_=Value.agg #[I y80.2.1.1,I y80.2.1.2]) rfl sz141 rfl rfl S90 (i:=0) rfl (Nat.le_of_ble_eq_true rfl) (rfl:_=#[I y80.2.1.1,I y80.2.1.2]) fun w91 S92=>?_
    replace S92:St w (fun _=>False) w91 [bx b88 (.cells #[I y80.2.1.1,I y80.2.1.2] 141),bx r74 (itO m clock (dn++[y80])),bx l63 o65,bx D64 (.deferred (some [])),bx b36 (.cells (ivs ((relaxL o (ents dn)).1)).toArray 146),bx b30 (.cells (ivs (List.replicate 9 0)).toArray 146),bx b27 (.cells #[I start] 3),bx b24 (.cells #[I t,I r,Value.slice A n c,Value.map (some m)] 89)] [bx b44 (.cells #[I t,I r,Value.slice A n c,Value.map (some m)] 89),bx m (mapO ekP iE es clock),bx 3 (.cells #[I (-1),I (-1)] 141)]:=S92
    refine o_asg (rfl:_=I y80.2.2) ?_
    refine wp_nil ?_
    refine c_seq ?_
    refine reg_any mixed 16 (by kernel_rfl) [rv (Value.agg #[I y80.2.1.1,I y80.2.1.2]),rv (Value.agg #[I (-1),I (-1)]),rv (B (!((y80.2.1.1==(-1))&&(y80.2.1.2==(-1))))),rv (B (!((y80.2.1.1==(-1))&&(y80.2.1.2==(-1))))),rv ((if (!((y80.2.1.1==(-1))&&(y80.2.1.2==(-1))))=true then P b88 0 else undef)),rv ((if (!((y80.2.1.1==(-1))&&(y80.2.1.2==(-1))))=true then I y80.2.1.1 else undef)),rv ((if (!((y80.2.1.1==(-1))&&(y80.2.1.2==(-1))))=true then P b36 (y80.2.1.1.toNat) else undef)),rv ((if (!((y80.2.1.1==(-1))&&(y80.2.1.2==(-1))))=true then I (((relaxL o (ents dn)).1).getD y80.2.1.1.toNat 0) else undef)),rv ((if (!((y80.2.1.1==(-1))&&(y80.2.1.2==(-1))))=true then I y80.2.2 else undef)),rv ((if (!((y80.2.1.1==(-1))&&(y80.2.1.2==(-1))))=true then I (IntKind.i64.wrap ((((relaxL o (ents dn)).1).getD y80.2.1.1.toNat 0)+y80.2.2)) else undef)),rv ((if (!((y80.2.1.1==(-1))&&(y80.2.1.2==(-1))))=true then P b88 1 else undef)),rv ((if (!((y80.2.1.1==(-1))&&(y80.2.1.2==(-1))))=true then I y80.2.1.2 else undef)),rv ((if (!((y80.2.1.1==(-1))&&(y80.2.1.2==(-1))))=true then P b36 (y80.2.1.2.toNat) else undef)),rv ((if (!((y80.2.1.1==(-1))&&(y80.2.1.2==(-1))))=true then I (((relaxL o (ents dn)).1).getD y80.2.1.2.toNat 0) else undef)),rv ((if (!((y80.2.1.1==(-1))&&(y80.2.1.2==(-1))))=true then B (decide ((IntKind.i64.wrap ((((relaxL o (ents dn)).1).getD y80.2.1.1.toNat 0)+y80.2.2)) < (((relaxL o (ents dn)).1).getD y80.2.1.2.toNat 0))) else undef)),rv (B ((!((y80.2.1.1==(-1))&&(y80.2.1.2==(-1))))&&(decide ((IntKind.i64.wrap ((((relaxL o (ents dn)).1).getD y80.2.1.1.toNat 0)+y80.2.2)) < (((relaxL o (ents dn)).1).getD y80.2.1.2.toNat 0)))))] [[],[],[],[],[],[],[],[],[],[],[],[],[],[],[],[]] rfl (by kernel_rfl) [[],[],[0,1],[0,1,2],[0,1,2,3],[0,1,2,3,4],[0,1,2,3,4,5],[0,1,2,3,4,5,6],[0,1,2,3],[0,1,2,3,4,5,6,7,8],[0,1,2,3],[0,1,2,3,10],[0,1,2,3,10,11],[0,1,2,3,10,11,12],[0,1,2,3,4,5,6,7,8,9,10,11,12,13],[0,1,2,3,4,5,6,7,8,9,10,11,12,13,14]] (by kernel_rfl) ⟨?_,?_,?_,?_,?_,?_,?_,?_,?_,?_,?_,?_,?_,?_,?_,?_,trivial⟩ ?_
    ·intro e93 w94 k96 hf97 hR98
     have S95:St w94 (fun _=>False) w94 [] [bx b88 (.cells #[I y80.2.1.1,I y80.2.1.2] 141),bx r74 (itO m clock (dn++[y80])),bx l63 o65,bx D64 (.deferred (some [])),bx b36 (.cells (ivs ((relaxL o (ents dn)).1)).toArray 146),bx b30 (.cells (ivs (List.replicate 9 0)).toArray 146),bx b27 (.cells #[I start] 3),bx b24 (.cells #[I t,I r,Value.slice A n c,Value.map (some m)] 89),bx b44 (.cells #[I t,I r,Value.slice A n c,Value.map (some m)] 89),bx m (mapO ekP iE es clock),bx 3 (.cells #[I (-1),I (-1)] 141)]:=S92.asP k96
     refine hopE [(9,P b88 0)] ⟨((hf97 9 rfl).trans (rfl:_=P b88 0)),trivial⟩ ?_
     refine o_ldN (cs:=[I y80.2.1.1,I y80.2.1.2]) (rfl:_=P b88 0) ty141 sz141 rfl (box_cells (S95.atP (i:=0) rfl) (o:=0) rfl) ?_
     refine wp_nil ?_
     exact ⟨_,rfl,S95.keep,rfl⟩
    ·intro e99 w100 k102 hf103 hR104
     have S101:St w100 (fun _=>False) w100 [] [bx b88 (.cells #[I y80.2.1.1,I y80.2.1.2] 141),bx r74 (itO m clock (dn++[y80])),bx l63 o65,bx D64 (.deferred (some [])),bx b36 (.cells (ivs ((relaxL o (ents dn)).1)).toArray 146),bx b30 (.cells (ivs (List.replicate 9 0)).toArray 146),bx b27 (.cells #[I start] 3),bx b24 (.cells #[I t,I r,Value.slice A n c,Value.map (some m)] 89),bx b44 (.cells #[I t,I r,Value.slice A n c,Value.map (some m)] 89),bx m (mapO ekP iE es clock),bx 3 (.cells #[I (-1),I (-1)] 141)]:=S92.asP k102
     refine hopE [] trivial ?_
     refine o_ldN (cs:=[I (-1),I (-1)]) (rfl:_=P 3 0) ty141 sz141 rfl (box_cells (S101.atP (i:=10) rfl) (o:=0) rfl) ?_
     refine wp_nil ?_
     exact ⟨_,rfl,S101.keep,rfl⟩
    ·intro e105 w106 k108 hf109 hR110
     have S107:St w106 (fun _=>False) w106 [] [bx b88 (.cells #[I y80.2.1.1,I y80.2.1.2] 141),bx r74 (itO m clock (dn++[y80])),bx l63 o65,bx D64 (.deferred (some [])),bx b36 (.cells (ivs ((relaxL o (ents dn)).1)).toArray 146),bx b30 (.cells (ivs (List.replicate 9 0)).toArray 146),bx b27 (.cells #[I start] 3),bx b24 (.cells #[I t,I r,Value.slice A n c,Value.map (some m)] 89),bx b44 (.cells #[I t,I r,Value.slice A n c,Value.map (some m)] 89),bx m (mapO ekP iE es clock),bx 3 (.cells #[I (-1),I (-1)] 141)]:=S92.asP k108
     obtain ⟨lo111,hi112,_,_,q113⟩:=hR110 0 36 rfl (Nat.le_of_ble_eq_true rfl) rfl
     replace q113:e105 36=Value.agg #[I y80.2.1.1,I y80.2.1.2]:=q113
     obtain ⟨lo114,hi115,_,_,q116⟩:=hR110 1 37 rfl (Nat.le_of_ble_eq_true rfl) rfl
     replace q116:e105 37=Value.agg #[I (-1),I (-1)]:=q116
     refine hopE [(36,Value.agg #[I y80.2.1.1,I y80.2.1.2]),(37,Value.agg #[I (-1),I (-1)])] ⟨q113,q116,trivial⟩ ?_
     refine o_neA (xs:=[I y80.2.1.1,I y80.2.1.2]) (ys:=[I (-1),I (-1)]) (T:=(y80.2.1.1==(-1))&&(y80.2.1.2==(-1))) (rfl:_=Value.agg #[I y80.2.1.1,I y80.2.1.2]) (rfl:_=Value.agg #[I (-1),I (-1)]) eq141 ⟨⟨_,rfl⟩,⟨⟨_,rfl⟩,trivial⟩⟩ ⟨⟨_,rfl⟩,⟨⟨_,rfl⟩,trivial⟩⟩ (by simp [Bool.and_eq_true,and_assoc]) ?_
     refine wp_nil ?_
     exact ⟨_,rfl,S107.keep,rfl⟩
    ·intro e117 w118 k120 hf121 hR122
     have S119:St w118 (fun _=>False) w118 [] [bx b88 (.cells #[I y80.2.1.1,I y80.2.1.2] 141),bx r74 (itO m clock (dn++[y80])),bx l63 o65,bx D64 (.deferred (some [])),bx b36 (.cells (ivs ((relaxL o (ents dn)).1)).toArray 146),bx b30 (.cells (ivs (List.replicate 9 0)).toArray 146),bx b27 (.cells #[I start] 3),bx b24 (.cells #[I t,I r,Value.slice A n c,Value.map (some m)] 89),bx b44 (.cells #[I t,I r,Value.slice A n c,Value.map (some m)] 89),bx m (mapO ekP iE es clock),bx 3 (.cells #[I (-1),I (-1)] 141)]:=S92.asP k120
     obtain ⟨lo123,hi124,_,_,q125⟩:=hR122 2 38 rfl (Nat.le_of_ble_eq_true rfl) rfl
     replace q125:e117 38=B (!((y80.2.1.1==(-1))&&(y80.2.1.2==(-1)))):=q125
     refine hopE [(38,B (!((y80.2.1.1==(-1))&&(y80.2.1.2==(-1)))))] ⟨q125,trivial⟩ ?_
     refine o_mov (rfl:_=B (!((y80.2.1.1==(-1))&&(y80.2.1.2==(-1))))) ?_
     refine wp_nil ?_
     exact ⟨_,rfl,S119.keep,rfl⟩
    ·intro e126 w127 k129 hf130 hR131
     have S128:St w127 (fun _=>False) w127 [] [bx b88 (.cells #[I y80.2.1.1,I y80.2.1.2] 141),bx r74 (itO m clock (dn++[y80])),bx l63 o65,bx D64 (.deferred (some [])),bx b36 (.cells (ivs ((relaxL o (ents dn)).1)).toArray 146),bx b30 (.cells (ivs (List.replicate 9 0)).toArray 146),bx b27 (.cells #[I start] 3),bx b24 (.cells #[I t,I r,Value.slice A n c,Value.map (some m)] 89),bx b44 (.cells #[I t,I r,Value.slice A n c,Value.map (some m)] 89),bx m (mapO ekP iE es clock),bx 3 (.cells #[I (-1),I (-1)] 141)]:=S92.asP k129
     obtain ⟨lo132,hi133,_,_,q134⟩:=hR131 3 39 rfl (Nat.le_of_ble_eq_true rfl) rfl
     replace q134:e126 39=B (!((y80.2.1.1==(-1))&&(y80.2.1.2==(-1)))):=q134
     by_cases hT_:(!((y80.2.1.1==(-1))&&(y80.2.1.2==(-1))))=true
     ·skip
      refine hopE [(9,P b88 0),(39,B (!((y80.2.1.1==(-1))&&(y80.2.1.2==(-1)))))] ⟨((hf130 9 rfl).trans (rfl:_=P b88 0)),q134,trivial⟩ ?_
      refine o_guard (s:=39) rfl (rfl:_=B (!((y80.2.1.1==(-1))&&(y80.2.1.2==(-1))))) (fun _=>?_) (fun h_=>by rw [hT_] at h_; cases h_)
      refine o_fld (rfl:_=P b88 0) fl141_0 (rfl:_=0) ?_
      refine wp_nil ?_
      exact ⟨_,rfl,S128.keep,(if_pos hT_).symm⟩
     ·refine hopE [(39,B (!((y80.2.1.1==(-1))&&(y80.2.1.2==(-1)))))] ⟨q134,trivial⟩ ?_
      refine o_guard (s:=39) rfl (rfl:_=B (!((y80.2.1.1==(-1))&&(y80.2.1.2==(-1))))) (fun h_=>absurd h_ hT_) (fun _=>?_)
      refine wp_nil ?_
      exact ⟨_,rfl,S128.keep,(if_neg hT_).symm⟩
    ·intro e135 w136 k138 hf139 hR140
     have S137:St w136 (fun _=>False) w136 [] [bx b88 (.cells #[I y80.2.1.1,I y80.2.1.2] 141),bx r74 (itO m clock (dn++[y80])),bx l63 o65,bx D64 (.deferred (some [])),bx b36 (.cells (ivs ((relaxL o (ents dn)).1)).toArray 146),bx b30 (.cells (ivs (List.replicate 9 0)).toArray 146),bx b27 (.cells #[I start] 3),bx b24 (.cells #[I t,I r,Value.slice A n c,Value.map (some m)] 89),bx b44 (.cells #[I t,I r,Value.slice A n c,Value.map (some m)] 89),bx m (mapO ekP iE es clock),bx 3 (.cells #[I (-1),I (-1)] 141)]:=S92.asP k138
     obtain ⟨lo141,hi142,_,_,q143⟩:=hR140 3 39 rfl (Nat.le_of_ble_eq_true rfl) rfl
     replace q143:e135 39=B (!((y80.2.1.1==(-1))&&(y80.2.1.2==(-1)))):=q143
     obtain ⟨lo144,hi145,_,_,q146⟩:=hR140 4 40 rfl (Nat.le_of_ble_eq_true rfl) rfl
     replace q146:e135 40=(if (!((y80.2.1.1==(-1))&&(y80.2.1.2==(-1))))=true then P b88 0 else undef):=q146
     by_cases hT_:(!((y80.2.1.1==(-1))&&(y80.2.1.2==(-1))))=true
     ·replace q146:e135 40=P b88 0:=q146.trans (if_pos hT_)
      refine hopE [(39,B (!((y80.2.1.1==(-1))&&(y80.2.1.2==(-1))))),(40,P b88 0)] ⟨q143,q146,trivial⟩ ?_
      refine o_guard (s:=39) rfl (rfl:_=B (!((y80.2.1.1==(-1))&&(y80.2.1.2==(-1))))) (fun _=>?_) (fun h_=>by rw [hT_] at h_; cases h_)
      refine o_ld1 (rfl:_=P b88 0) ty3 ((cell_of (S137.atP (i:=0) rfl) 0).trans (rfl:_=some (I y80.2.1.1))) ?_
      refine wp_nil ?_
      exact ⟨_,rfl,S137.keep,(if_pos hT_).symm⟩
     ·refine hopE [(39,B (!((y80.2.1.1==(-1))&&(y80.2.1.2==(-1)))))] ⟨q143,trivial⟩ ?_
      refine o_guard (s:=39) rfl (rfl:_=B (!((y80.2.1.1==(-1))&&(y80.2.1.2==(-1))))) (fun h_=>absurd h_ hT_) (fun _=>?_)
      refine wp_nil ?_
      exact ⟨_,rfl,S137.keep,(if_neg hT_).symm⟩
    ·intro e147 w148 k150 hf151 hR152
     have S149:St w148 (fun _=>False) w148 [] [bx b88 (.cells #[I y80.2.1.1,I y80.2.1.2] 141),bx r74 (itO m clock (dn++[y80])),bx l63 o65,bx D64 (.deferred (some [])),bx b36 (.cells (ivs ((relaxL o (ents dn)).1)).toArray 146),bx b30 (.cells (ivs (List.replicate 9 0)).toArray 146),bx b27 (.cells #[I start] 3),bx b24 (.cells #[I t,I r,Value.slice A n c,Value.map (some m)] 89),bx b44 (.cells #[I t,I r,Value.slice A n c,Value.map (some m)] 89),bx m (mapO ekP iE es clock),bx 3 (.cells #[I (-1),I (-1)] 141)]:=S92.asP k150
     obtain ⟨lo153,hi154,_,_,q155⟩:=hR152 3 39 rfl (Nat.le_of_ble_eq_true rfl) rfl
     replace q155:e147 39=B (!((y80.2.1.1==(-1))&&(y80.2.1.2==(-1)))):=q155
     obtain ⟨lo156,hi157,_,_,q158⟩:=hR152 5 41 rfl (Nat.le_of_ble_eq_true rfl) rfl
     replace q158:e147 41=(if (!((y80.2.1.1==(-1))&&(y80.2.1.2==(-1))))=true then I y80.2.1.1 else undef):=q158
     by_cases hT_:(!((y80.2.1.1==(-1))&&(y80.2.1.2==(-1))))=true
     ·replace q158:e147 41=I y80.2.1.1:=q158.trans (if_pos hT_)
      refine hopE [(6,P b36 0),(39,B (!((y80.2.1.1==(-1))&&(y80.2.1.2==(-1))))),(41,I y80.2.1.1)] ⟨((hf151 6 rfl).trans (rfl:_=P b36 0)),q155,q158,trivial⟩ ?_
      refine o_guard (s:=39) rfl (rfl:_=B (!((y80.2.1.1==(-1))&&(y80.2.1.2==(-1))))) (fun _=>?_) (fun h_=>by rw [hT_] at h_; cases h_)
      refine o_ixA (rfl:_=P b36 0) (rfl:_=I y80.2.1.1) ar146 (by omega) (by omega) (by simp:_=y80.2.1.1.toNat) ?_
      refine wp_nil ?_
      exact ⟨_,rfl,S149.keep,(if_pos hT_).symm⟩
     ·refine hopE [(39,B (!((y80.2.1.1==(-1))&&(y80.2.1.2==(-1)))))] ⟨q155,trivial⟩ ?_
      refine o_guard (s:=39) rfl (rfl:_=B (!((y80.2.1.1==(-1))&&(y80.2.1.2==(-1))))) (fun h_=>absurd h_ hT_) (fun _=>?_)
      refine wp_nil ?_
      exact ⟨_,rfl,S149.keep,(if_neg hT_).symm⟩
    ·intro e159 w160 k162 hf163 hR164
     have S161:St w160 (fun _=>False) w160 [] [bx b88 (.cells #[I y80.2.1.1,I y80.2.1.2] 141),bx r74 (itO m clock (dn++[y80])),bx l63 o65,bx D64 (.deferred (some [])),bx b36 (.cells (ivs ((relaxL o (ents dn)).1)).toArray 146),bx b30 (.cells (ivs (List.replicate 9 0)).toArray 146),bx b27 (.cells #[I start] 3),bx b24 (.cells #[I t,I r,Value.slice A n c,Value.map (some m)] 89),bx b44 (.cells #[I t,I r,Value.slice A n c,Value.map (some m)] 89),bx m (mapO ekP iE es clock),bx 3 (.cells #[I (-1),I (-1)] 141)]:=S92.asP k162
     obtain ⟨lo165,hi166,_,_,q167⟩:=hR164 3 39 rfl (Nat.le_of_ble_eq_true rfl) rfl
     replace q167:e159 39=B (!((y80.2.1.1==(-1))&&(y80.2.1.2==(-1)))):=q167
     obtain ⟨lo168,hi169,_,_,q170⟩:=hR164 6 42 rfl (Nat.le_of_ble_eq_true rfl) rfl
     replace q170:e159 42=(if (!((y80.2.1.1==(-1))&&(y80.2.1.2==(-1))))=true then P b36 (y80.2.1.1.toNat) else undef):=q170
     by_cases hT_:(!((y80.2.1.1==(-1))&&(y80.2.1.2==(-1))))=true
     ·replace q170:e159 42=P b36 (y80.2.1.1.toNat):=q170.trans (if_pos hT_)
      refine hopE [(39,B (!((y80.2.1.1==(-1))&&(y80.2.1.2==(-1))))),(42,P b36 (y80.2.1.1.toNat))] ⟨q167,q170,trivial⟩ ?_
      refine o_guard (s:=39) rfl (rfl:_=B (!((y80.2.1.1==(-1))&&(y80.2.1.2==(-1))))) (fun _=>?_) (fun h_=>by rw [hT_] at h_; cases h_)
      refine o_ld1 (rfl:_=P b36 (y80.2.1.1.toNat)) ty3 (ivs_cell (S161.atP (i:=4) rfl) (getD_in (by have:=(show ((relaxL o (ents dn)).1:List Int).length=9 from (Eq.trans (relaxL_len _ _) (show (o:List Int).length=9 from ho))); omega))) ?_
      refine wp_nil ?_
      exact ⟨_,rfl,S161.keep,(if_pos hT_).symm⟩
     ·refine hopE [(39,B (!((y80.2.1.1==(-1))&&(y80.2.1.2==(-1)))))] ⟨q167,trivial⟩ ?_
      refine o_guard (s:=39) rfl (rfl:_=B (!((y80.2.1.1==(-1))&&(y80.2.1.2==(-1))))) (fun h_=>absurd h_ hT_) (fun _=>?_)
      refine wp_nil ?_
      exact ⟨_,rfl,S161.keep,(if_neg hT_).symm⟩
    ·intro e171 w172 k174 hf175 hR176
     have S173:St w172 (fun _=>False) w172 [] [bx b88 (.cells #[I y80.2.1.1,I y80.2.1.2] 141),bx r74 (itO m clock (dn++[y80])),bx l63 o65,bx D64 (.deferred (some [])),bx b36 (.cells (ivs ((relaxL o (ents dn)).1)).toArray 146),bx b30 (.cells (ivs (List.replicate 9 0)).toArray 146),bx b27 (.cells #[I start] 3),bx b24 (.cells #[I t,I r,Value.slice A n c,Value.map (some m)] 89),bx b44 (.cells #[I t,I r,Value.slice A n c,Value.map (some m)] 89),bx m (mapO ekP iE es clock),bx 3 (.cells #[I (-1),I (-1)] 141)]:=S92.asP k174
     obtain ⟨lo177,hi178,_,_,q179⟩:=hR176 3 39 rfl (Nat.le_of_ble_eq_true rfl) rfl
     replace q179:e171 39=B (!((y80.2.1.1==(-1))&&(y80.2.1.2==(-1)))):=q179
     by_cases hT_:(!((y80.2.1.1==(-1))&&(y80.2.1.2==(-1))))=true
     ·skip
      refine hopE [(10,I y80.2.2),(39,B (!((y80.2.1.1==(-1))&&(y80.2.1.2==(-1)))))] ⟨((hf175 10 rfl).trans (rfl:_=I y80.2.2)),q179,trivial⟩ ?_
      refine o_guard (s:=39) rfl (rfl:_=B (!((y80.2.1.1==(-1))&&(y80.2.1.2==(-1))))) (fun _=>?_) (fun h_=>by rw [hT_] at h_; cases h_)
      refine o_mov (rfl:_=I y80.2.2) ?_
      refine wp_nil ?_
      exact ⟨_,rfl,S173.keep,(if_pos hT_).symm⟩
     ·refine hopE [(39,B (!((y80.2.1.1==(-1))&&(y80.2.1.2==(-1)))))] ⟨q179,trivial⟩ ?_
      refine o_guard (s:=39) rfl (rfl:_=B (!((y80.2.1.1==(-1))&&(y80.2.1.2==(-1))))) (fun h_=>absurd h_ hT_) (fun _=>?_)
      refine wp_nil ?_
      exact ⟨_,rfl,S173.keep,(if_neg hT_).symm⟩
    ·intro e180 w181 k183 hf184 hR185
     have S182:St w181 (fun _=>False) w181 [] [bx b88 (.cells #[I y80.2.1.1,I y80.2.1.2] 141),bx r74 (itO m clock (dn++[y80])),bx l63 o65,bx D64 (.deferred (some [])),bx b36 (.cells (ivs ((relaxL o (ents dn)).1)).toArray 146),bx b30 (.cells (ivs (List.replicate 9 0)).toArray 146),bx b27 (.cells #[I start] 3),bx b24 (.cells #[I t,I r,Value.slice A n c,Value.map (some m)] 89),bx b44 (.cells #[I t,I r,Value.slice A n c,Value.map (some m)] 89),bx m (mapO ekP iE es clock),bx 3 (.cells #[I (-1),I (-1)] 141)]:=S92.asP k183
     obtain ⟨lo186,hi187,_,_,q188⟩:=hR185 3 39 rfl (Nat.le_of_ble_eq_true rfl) rfl
     replace q188:e180 39=B (!((y80.2.1.1==(-1))&&(y80.2.1.2==(-1)))):=q188
     obtain ⟨lo189,hi190,_,_,q191⟩:=hR185 7 43 rfl (Nat.le_of_ble_eq_true rfl) rfl
     replace q191:e180 43=(if (!((y80.2.1.1==(-1))&&(y80.2.1.2==(-1))))=true then I (((relaxL o (ents dn)).1).getD y80.2.1.1.toNat 0) else undef):=q191
     obtain ⟨lo192,hi193,_,_,q194⟩:=hR185 8 44 rfl (Nat.le_of_ble_eq_true rfl) rfl
     replace q194:e180 44=(if (!((y80.2.1.1==(-1))&&(y80.2.1.2==(-1))))=true then I y80.2.2 else undef):=q194
     by_cases hT_:(!((y80.2.1.1==(-1))&&(y80.2.1.2==(-1))))=true
     ·replace q191:e180 43=I (((relaxL o (ents dn)).1).getD y80.2.1.1.toNat 0):=q191.trans (if_pos hT_)
      replace q194:e180 44=I y80.2.2:=q194.trans (if_pos hT_)
      refine hopE [(39,B (!((y80.2.1.1==(-1))&&(y80.2.1.2==(-1))))),(43,I (((relaxL o (ents dn)).1).getD y80.2.1.1.toNat 0)),(44,I y80.2.2)] ⟨q188,q191,q194,trivial⟩ ?_
      refine o_guard (s:=39) rfl (rfl:_=B (!((y80.2.1.1==(-1))&&(y80.2.1.2==(-1))))) (fun _=>?_) (fun h_=>by rw [hT_] at h_; cases h_)
      refine o_add (rfl:_=I (((relaxL o (ents dn)).1).getD y80.2.1.1.toNat 0)) (rfl:_=I y80.2.2) (rfl:_=IntKind.i64.wrap ((((relaxL o (ents dn)).1).getD y80.2.1.1.toNat 0)+y80.2.2)) ?_
      refine wp_nil ?_
      exact ⟨_,rfl,S182.keep,(if_pos hT_).symm⟩
     ·refine hopE [(39,B (!((y80.2.1.1==(-1))&&(y80.2.1.2==(-1)))))] ⟨q188,trivial⟩ ?_
      refine o_guard (s:=39) rfl (rfl:_=B (!((y80.2.1.1==(-1))&&(y80.2.1.2==(-1))))) (fun h_=>absurd h_ hT_) (fun _=>?_)
      refine wp_nil ?_
      exact ⟨_,rfl,S182.keep,(if_neg hT_).symm⟩
    ·intro e195 w196 k198 hf199 hR200
     have S197:St w196 (fun _=>False) w196 [] [bx b88 (.cells #[I y80.2.1.1,I y80.2.1.2] 141),bx r74 (itO m clock (dn++[y80])),bx l63 o65,bx D64 (.deferred (some [])),bx b36 (.cells (ivs ((relaxL o (ents dn)).1)).toArray 146),bx b30 (.cells (ivs (List.replicate 9 0)).toArray 146),bx b27 (.cells #[I start] 3),bx b24 (.cells #[I t,I r,Value.slice A n c,Value.map (some m)] 89),bx b44 (.cells #[I t,I r,Value.slice A n c,Value.map (some m)] 89),bx m (mapO ekP iE es clock),bx 3 (.cells #[I (-1),I (-1)] 141)]:=S92.asP k198
     obtain ⟨lo201,hi202,_,_,q203⟩:=hR200 3 39 rfl (Nat.le_of_ble_eq_true rfl) rfl
     replace q203:e195 39=B (!((y80.2.1.1==(-1))&&(y80.2.1.2==(-1)))):=q203
     by_cases hT_:(!((y80.2.1.1==(-1))&&(y80.2.1.2==(-1))))=true
     ·skip
      refine hopE [(9,P b88 0),(39,B (!((y80.2.1.1==(-1))&&(y80.2.1.2==(-1)))))] ⟨((hf199 9 rfl).trans (rfl:_=P b88 0)),q203,trivial⟩ ?_
      refine o_guard (s:=39) rfl (rfl:_=B (!((y80.2.1.1==(-1))&&(y80.2.1.2==(-1))))) (fun _=>?_) (fun h_=>by rw [hT_] at h_; cases h_)
      refine o_fld (rfl:_=P b88 0) fl141_1 (rfl:_=1) ?_
      refine wp_nil ?_
      exact ⟨_,rfl,S197.keep,(if_pos hT_).symm⟩
     ·refine hopE [(39,B (!((y80.2.1.1==(-1))&&(y80.2.1.2==(-1)))))] ⟨q203,trivial⟩ ?_
      refine o_guard (s:=39) rfl (rfl:_=B (!((y80.2.1.1==(-1))&&(y80.2.1.2==(-1))))) (fun h_=>absurd h_ hT_) (fun _=>?_)
      refine wp_nil ?_
      exact ⟨_,rfl,S197.keep,(if_neg hT_).symm⟩
    ·intro e204 w205 k207 hf208 hR209
     have S206:St w205 (fun _=>False) w205 [] [bx b88 (.cells #[I y80.2.1.1,I y80.2.1.2] 141),bx r74 (itO m clock (dn++[y80])),bx l63 o65,bx D64 (.deferred (some [])),bx b36 (.cells (ivs ((relaxL o (ents dn)).1)).toArray 146),bx b30 (.cells (ivs (List.replicate 9 0)).toArray 146),bx b27 (.cells #[I start] 3),bx b24 (.cells #[I t,I r,Value.slice A n c,Value.map (some m)] 89),bx b44 (.cells #[I t,I r,Value.slice A n c,Value.map (some m)] 89),bx m (mapO ekP iE es clock),bx 3 (.cells #[I (-1),I (-1)] 141)]:=S92.asP k207
     obtain ⟨lo210,hi211,_,_,q212⟩:=hR209 3 39 rfl (Nat.le_of_ble_eq_true rfl) rfl
     replace q212:e204 39=B (!((y80.2.1.1==(-1))&&(y80.2.1.2==(-1)))):=q212
     obtain ⟨lo213,hi214,_,_,q215⟩:=hR209 10 46 rfl (Nat.le_of_ble_eq_true rfl) rfl
     replace q215:e204 46=(if (!((y80.2.1.1==(-1))&&(y80.2.1.2==(-1))))=true then P b88 1 else undef):=q215
     by_cases hT_:(!((y80.2.1.1==(-1))&&(y80.2.1.2==(-1))))=true
     ·replace q215:e204 46=P b88 1:=q215.trans (if_pos hT_)
      refine hopE [(39,B (!((y80.2.1.1==(-1))&&(y80.2.1.2==(-1))))),(46,P b88 1)] ⟨q212,q215,trivial⟩ ?_
      refine o_guard (s:=39) rfl (rfl:_=B (!((y80.2.1.1==(-1))&&(y80.2.1.2==(-1))))) (fun _=>?_) (fun h_=>by rw [hT_] at h_; cases h_)
      refine o_ld1 (rfl:_=P b88 1) ty3 ((cell_of (S206.atP (i:=0) rfl) 1).trans (rfl:_=some (I y80.2.1.2))) ?_
      refine wp_nil ?_
      exact ⟨_,rfl,S206.keep,(if_pos hT_).symm⟩
     ·refine hopE [(39,B (!((y80.2.1.1==(-1))&&(y80.2.1.2==(-1)))))] ⟨q212,trivial⟩ ?_
      refine o_guard (s:=39) rfl (rfl:_=B (!((y80.2.1.1==(-1))&&(y80.2.1.2==(-1))))) (fun h_=>absurd h_ hT_) (fun _=>?_)
      refine wp_nil ?_
      exact ⟨_,rfl,S206.keep,(if_neg hT_).symm⟩
    ·intro e216 w217 k219 hf220 hR221
     have S218:St w217 (fun _=>False) w217 [] [bx b88 (.cells #[I y80.2.1.1,I y80.2.1.2] 141),bx r74 (itO m clock (dn++[y80])),bx l63 o65,bx D64 (.deferred (some [])),bx b36 (.cells (ivs ((relaxL o (ents dn)).1)).toArray 146),bx b30 (.cells (ivs (List.replicate 9 0)).toArray 146),bx b27 (.cells #[I start] 3),bx b24 (.cells #[I t,I r,Value.slice A n c,Value.map (some m)] 89),bx b44 (.cells #[I t,I r,Value.slice A n c,Value.map (some m)] 89),bx m (mapO ekP iE es clock),bx 3 (.cells #[I (-1),I (-1)] 141)]:=S92.asP k219
     obtain ⟨lo222,hi223,_,_,q224⟩:=hR221 3 39 rfl (Nat.le_of_ble_eq_true rfl) rfl
     replace q224:e216 39=B (!((y80.2.1.1==(-1))&&(y80.2.1.2==(-1)))):=q224
     obtain ⟨lo225,hi226,_,_,q227⟩:=hR221 11 47 rfl (Nat.le_of_ble_eq_true rfl) rfl
     replace q227:e216 47=(if (!((y80.2.1.1==(-1))&&(y80.2.1.2==(-1))))=true then I y80.2.1.2 else undef):=q227
     by_cases hT_:(!((y80.2.1.1==(-1))&&(y80.2.1.2==(-1))))=true
     ·replace q227:e216 47=I y80.2.1.2:=q227.trans (if_pos hT_)
      refine hopE [(6,P b36 0),(39,B (!((y80.2.1.1==(-1))&&(y80.2.1.2==(-1))))),(47,I y80.2.1.2)] ⟨((hf220 6 rfl).trans (rfl:_=P b36 0)),q224,q227,trivial⟩ ?_
      refine o_guard (s:=39) rfl (rfl:_=B (!((y80.2.1.1==(-1))&&(y80.2.1.2==(-1))))) (fun _=>?_) (fun h_=>by rw [hT_] at h_; cases h_)
      refine o_ixA (rfl:_=P b36 0) (rfl:_=I y80.2.1.2) ar146 (by omega) (by omega) (by simp:_=y80.2.1.2.toNat) ?_
      refine wp_nil ?_
      exact ⟨_,rfl,S218.keep,(if_pos hT_).symm⟩
     ·refine hopE [(39,B (!((y80.2.1.1==(-1))&&(y80.2.1.2==(-1)))))] ⟨q224,trivial⟩ ?_
      refine o_guard (s:=39) rfl (rfl:_=B (!((y80.2.1.1==(-1))&&(y80.2.1.2==(-1))))) (fun h_=>absurd h_ hT_) (fun _=>?_)
      refine wp_nil ?_
      exact ⟨_,rfl,S218.keep,(if_neg hT_).symm⟩
    ·intro e228 w229 k231 hf232 hR233
     have S230:St w229 (fun _=>False) w229 [] [bx b88 (.cells #[I y80.2.1.1,I y80.2.1.2] 141),bx r74 (itO m clock (dn++[y80])),bx l63 o65,bx D64 (.deferred (some [])),bx b36 (.cells (ivs ((relaxL o (ents dn)).1)).toArray 146),bx b30 (.cells (ivs (List.replicate 9 0)).toArray 146),bx b27 (.cells #[I start] 3),bx b24 (.cells #[I t,I r,Value.slice A n c,Value.map (some m)] 89),bx b44 (.cells #[I t,I r,Value.slice A n c,Value.map (some m)] 89),bx m (mapO ekP iE es clock),bx 3 (.cells #[I (-1),I (-1)] 141)]:=S92.asP k231
     obtain ⟨lo234,hi235,_,_,q236⟩:=hR233 3 39 rfl (Nat.le_of_ble_eq_true rfl) rfl
     replace q236:e228 39=B (!((y80.2.1.1==(-1))&&(y80.2.1.2==(-1)))):=q236
     obtain ⟨lo237,hi238,_,_,q239⟩:=hR233 12 48 rfl (Nat.le_of_ble_eq_true rfl) rfl
     replace q239:e228 48=(if (!((y80.2.1.1==(-1))&&(y80.2.1.2==(-1))))=true then P b36 (y80.2.1.2.toNat) else undef):=q239
     by_cases hT_:(!((y80.2.1.1==(-1))&&(y80.2.1.2==(-1))))=true
     ·replace q239:e228 48=P b36 (y80.2.1.2.toNat):=q239.trans (if_pos hT_)
      refine hopE [(39,B (!((y80.2.1.1==(-1))&&(y80.2.1.2==(-1))))),(48,P b36 (y80.2.1.2.toNat))] ⟨q236,q239,trivial⟩ ?_
      refine o_guard (s:=39) rfl (rfl:_=B (!((y80.2.1.1==(-1))&&(y80.2.1.2==(-1))))) (fun _=>?_) (fun h_=>by rw [hT_] at h_; cases h_)
      refine o_ld1 (rfl:_=P b36 (y80.2.1.2.toNat)) ty3 (ivs_cell (S230.atP (i:=4) rfl) (getD_in (by have:=(show ((relaxL o (ents dn)).1:List Int).length=9 from (Eq.trans (relaxL_len _ _) (show (o:List Int).length=9 from ho))); omega))) ?_
      refine wp_nil ?_
      exact ⟨_,rfl,S230.keep,(if_pos hT_).symm⟩
     ·refine hopE [(39,B (!((y80.2.1.1==(-1))&&(y80.2.1.2==(-1)))))] ⟨q236,trivial⟩ ?_
      refine o_guard (s:=39) rfl (rfl:_=B (!((y80.2.1.1==(-1))&&(y80.2.1.2==(-1))))) (fun h_=>absurd h_ hT_) (fun _=>?_)
      refine wp_nil ?_
      exact ⟨_,rfl,S230.keep,(if_neg hT_).symm⟩
    ·intro e240 w241 k243 hf244 hR245
     have S242:St w241 (fun _=>False) w241 [] [bx b88 (.cells #[I y80.2.1.1,I y80.2.1.2] 141),bx r74 (itO m clock (dn++[y80])),bx l63 o65,bx D64 (.deferred (some [])),bx b36 (.cells (ivs ((relaxL o (ents dn)).1)).toArray 146),bx b30 (.cells (ivs (List.replicate 9 0)).toArray 146),bx b27 (.cells #[I start] 3),bx b24 (.cells #[I t,I r,Value.slice A n c,Value.map (some m)] 89),bx b44 (.cells #[I t,I r,Value.slice A n c,Value.map (some m)] 89),bx m (mapO ekP iE es clock),bx 3 (.cells #[I (-1),I (-1)] 141)]:=S92.asP k243
     obtain ⟨lo246,hi247,_,_,q248⟩:=hR245 3 39 rfl (Nat.le_of_ble_eq_true rfl) rfl
     replace q248:e240 39=B (!((y80.2.1.1==(-1))&&(y80.2.1.2==(-1)))):=q248
     obtain ⟨lo249,hi250,_,_,q251⟩:=hR245 9 45 rfl (Nat.le_of_ble_eq_true rfl) rfl
     replace q251:e240 45=(if (!((y80.2.1.1==(-1))&&(y80.2.1.2==(-1))))=true then I (IntKind.i64.wrap ((((relaxL o (ents dn)).1).getD y80.2.1.1.toNat 0)+y80.2.2)) else undef):=q251
     obtain ⟨lo252,hi253,_,_,q254⟩:=hR245 13 49 rfl (Nat.le_of_ble_eq_true rfl) rfl
     replace q254:e240 49=(if (!((y80.2.1.1==(-1))&&(y80.2.1.2==(-1))))=true then I (((relaxL o (ents dn)).1).getD y80.2.1.2.toNat 0) else undef):=q254
     by_cases hT_:(!((y80.2.1.1==(-1))&&(y80.2.1.2==(-1))))=true
     ·replace q251:e240 45=I (IntKind.i64.wrap ((((relaxL o (ents dn)).1).getD y80.2.1.1.toNat 0)+y80.2.2)):=q251.trans (if_pos hT_)
      replace q254:e240 49=I (((relaxL o (ents dn)).1).getD y80.2.1.2.toNat 0):=q254.trans (if_pos hT_)
      refine hopE [(39,B (!((y80.2.1.1==(-1))&&(y80.2.1.2==(-1))))),(45,I (IntKind.i64.wrap ((((relaxL o (ents dn)).1).getD y80.2.1.1.toNat 0)+y80.2.2))),(49,I (((relaxL o (ents dn)).1).getD y80.2.1.2.toNat 0))] ⟨q248,q251,q254,trivial⟩ ?_
      refine o_guard (s:=39) rfl (rfl:_=B (!((y80.2.1.1==(-1))&&(y80.2.1.2==(-1))))) (fun _=>?_) (fun h_=>by rw [hT_] at h_; cases h_)
      refine o_cmp (rfl:_=I (IntKind.i64.wrap ((((relaxL o (ents dn)).1).getD y80.2.1.1.toNat 0)+y80.2.2))) (rfl:_=I (((relaxL o (ents dn)).1).getD y80.2.1.2.toNat 0)) (rfl:_=some (decide ((IntKind.i64.wrap ((((relaxL o (ents dn)).1).getD y80.2.1.1.toNat 0)+y80.2.2)) < (((relaxL o (ents dn)).1).getD y80.2.1.2.toNat 0)))) ?_
      refine wp_nil ?_
      exact ⟨_,rfl,S242.keep,(if_pos hT_).symm⟩
     ·refine hopE [(39,B (!((y80.2.1.1==(-1))&&(y80.2.1.2==(-1)))))] ⟨q248,trivial⟩ ?_
      refine o_guard (s:=39) rfl (rfl:_=B (!((y80.2.1.1==(-1))&&(y80.2.1.2==(-1))))) (fun h_=>absurd h_ hT_) (fun _=>?_)
      refine wp_nil ?_
      exact ⟨_,rfl,S242.keep,(if_neg hT_).symm⟩
    ·intro e255 w256 k258 hf259 hR260
     have S257:St w256 (fun _=>False) w256 [] [bx b88 (.cells #[I y80.2.1.1,I y80.2.1.2] 141),bx r74 (itO m clock (dn++[y80])),bx l63 o65,bx D64 (.deferred (some [])),bx b36 (.cells (ivs ((relaxL o (ents dn)).1)).toArray 146),bx b30 (.cells (ivs (List.replicate 9 0)).toArray 146),bx b27 (.cells #[I start] 3),bx b24 (.cells #[I t,I r,Value.slice A n c,Value.map (some m)] 89),bx b44 (.cells #[I t,I r,Value.slice A n c,Value.map (some m)] 89),bx m (mapO ekP iE es clock),bx 3 (.cells #[I (-1),I (-1)] 141)]:=S92.asP k258
     obtain ⟨lo261,hi262,_,_,q263⟩:=hR260 3 39 rfl (Nat.le_of_ble_eq_true rfl) rfl
     replace q263:e255 39=B (!((y80.2.1.1==(-1))&&(y80.2.1.2==(-1)))):=q263
     obtain ⟨lo264,hi265,_,_,q266⟩:=hR260 14 50 rfl (Nat.le_of_ble_eq_true rfl) rfl
     replace q266:e255 50=(if (!((y80.2.1.1==(-1))&&(y80.2.1.2==(-1))))=true then B (decide ((IntKind.i64.wrap ((((relaxL o (ents dn)).1).getD y80.2.1.1.toNat 0)+y80.2.2)) < (((relaxL o (ents dn)).1).getD y80.2.1.2.toNat 0))) else undef):=q266
     by_cases hT_:(!((y80.2.1.1==(-1))&&(y80.2.1.2==(-1))))=true
     ·replace q266:e255 50=B (decide ((IntKind.i64.wrap ((((relaxL o (ents dn)).1).getD y80.2.1.1.toNat 0)+y80.2.2)) < (((relaxL o (ents dn)).1).getD y80.2.1.2.toNat 0))):=q266.trans (if_pos hT_)
      refine hopE [(39,B (!((y80.2.1.1==(-1))&&(y80.2.1.2==(-1))))),(50,B (decide ((IntKind.i64.wrap ((((relaxL o (ents dn)).1).getD y80.2.1.1.toNat 0)+y80.2.2)) < (((relaxL o (ents dn)).1).getD y80.2.1.2.toNat 0))))] ⟨q263,q266,trivial⟩ ?_
      refine o_pickT (rfl:_=B (!((y80.2.1.1==(-1))&&(y80.2.1.2==(-1))))) hT_ (rfl:_=B (decide ((IntKind.i64.wrap ((((relaxL o (ents dn)).1).getD y80.2.1.1.toNat 0)+y80.2.2)) < (((relaxL o (ents dn)).1).getD y80.2.1.2.toNat 0)))) ?_
      refine wp_nil ?_
      exact ⟨_,rfl,S257.keep,congrArg B (by rw [hT_,Bool.true_and])⟩
     ·refine hopE [(39,B (!((y80.2.1.1==(-1))&&(y80.2.1.2==(-1)))))] ⟨q263,trivial⟩ ?_
      refine o_pickF (v:=B false) (rfl:_=B (!((y80.2.1.1==(-1))&&(y80.2.1.2==(-1))))) (Bool.eq_false_iff.2 hT_) rfl ?_
      refine wp_nil ?_
      exact ⟨_,rfl,S257.keep,congrArg B (by rw [Bool.eq_false_iff.2 hT_,Bool.false_and])⟩
    intro e267 w268 lo269 hi270 k271 hf272 hR273 hd274
    have S275:=S92.call k271
    have q276:e267 36=Value.agg #[I y80.2.1.1,I y80.2.1.2]:=(hR273 0 36 (Nat.le_of_ble_eq_true rfl) rfl).2.2.2
    have q277:e267 37=Value.agg #[I (-1),I (-1)]:=(hR273 1 37 (Nat.le_of_ble_eq_true rfl) rfl).2.2.2
    have q278:e267 38=B (!((y80.2.1.1==(-1))&&(y80.2.1.2==(-1)))):=(hR273 2 38 (Nat.le_of_ble_eq_true rfl) rfl).2.2.2
    have q279:e267 39=B (!((y80.2.1.1==(-1))&&(y80.2.1.2==(-1)))):=(hR273 3 39 (Nat.le_of_ble_eq_true rfl) rfl).2.2.2
    have q280:e267 40=(if (!((y80.2.1.1==(-1))&&(y80.2.1.2==(-1))))=true then P b88 0 else undef):=(hR273 4 40 (Nat.le_of_ble_eq_true rfl) rfl).2.2.2
    have q281:e267 41=(if (!((y80.2.1.1==(-1))&&(y80.2.1.2==(-1))))=true then I y80.2.1.1 else undef):=(hR273 5 41 (Nat.le_of_ble_eq_true rfl) rfl).2.2.2
    have q282:e267 42=(if (!((y80.2.1.1==(-1))&&(y80.2.1.2==(-1))))=true then P b36 (y80.2.1.1.toNat) else undef):=(hR273 6 42 (Nat.le_of_ble_eq_true rfl) rfl).2.2.2
    have q283:e267 43=(if (!((y80.2.1.1==(-1))&&(y80.2.1.2==(-1))))=true then I (((relaxL o (ents dn)).1).getD y80.2.1.1.toNat 0) else undef):=(hR273 7 43 (Nat.le_of_ble_eq_true rfl) rfl).2.2.2
    have q284:e267 44=(if (!((y80.2.1.1==(-1))&&(y80.2.1.2==(-1))))=true then I y80.2.2 else undef):=(hR273 8 44 (Nat.le_of_ble_eq_true rfl) rfl).2.2.2
    have q285:e267 45=(if (!((y80.2.1.1==(-1))&&(y80.2.1.2==(-1))))=true then I (IntKind.i64.wrap ((((relaxL o (ents dn)).1).getD y80.2.1.1.toNat 0)+y80.2.2)) else undef):=(hR273 9 45 (Nat.le_of_ble_eq_true rfl) rfl).2.2.2
    have q286:e267 46=(if (!((y80.2.1.1==(-1))&&(y80.2.1.2==(-1))))=true then P b88 1 else undef):=(hR273 10 46 (Nat.le_of_ble_eq_true rfl) rfl).2.2.2
    have q287:e267 47=(if (!((y80.2.1.1==(-1))&&(y80.2.1.2==(-1))))=true then I y80.2.1.2 else undef):=(hR273 11 47 (Nat.le_of_ble_eq_true rfl) rfl).2.2.2
    have q288:e267 48=(if (!((y80.2.1.1==(-1))&&(y80.2.1.2==(-1))))=true then P b36 (y80.2.1.2.toNat) else undef):=(hR273 12 48 (Nat.le_of_ble_eq_true rfl) rfl).2.2.2
    have q289:e267 49=(if (!((y80.2.1.1==(-1))&&(y80.2.1.2==(-1))))=true then I (((relaxL o (ents dn)).1).getD y80.2.1.2.toNat 0) else undef):=(hR273 13 49 (Nat.le_of_ble_eq_true rfl) rfl).2.2.2
    have q290:e267 50=(if (!((y80.2.1.1==(-1))&&(y80.2.1.2==(-1))))=true then B (decide ((IntKind.i64.wrap ((((relaxL o (ents dn)).1).getD y80.2.1.1.toNat 0)+y80.2.2)) < (((relaxL o (ents dn)).1).getD y80.2.1.2.toNat 0))) else undef):=(hR273 14 50 (Nat.le_of_ble_eq_true rfl) rfl).2.2.2
    have q291:e267 51=B ((!((y80.2.1.1==(-1))&&(y80.2.1.2==(-1))))&&(decide ((IntKind.i64.wrap ((((relaxL o (ents dn)).1).getD y80.2.1.1.toNat 0)+y80.2.2)) < (((relaxL o (ents dn)).1).getD y80.2.1.2.toNat 0)))):=(hR273 15 51 (Nat.le_of_ble_eq_true rfl) rfl).2.2.2
    refine tailE [(2,P b24 0),(3,P b27 0),(4,P b30 0),(6,P b36 0),(8,B ((relaxL o (ents dn)).2)),(9,P b88 0),(10,I y80.2.2),(25,I (t+2)),(26,I (i:Int)),(27,B true),(28,P b24 3),(29,Value.map (some m)),(30,P r74 0),(31,Value.tuple #[B true,Value.agg #[I y80.2.1.1,I y80.2.1.2],I y80.2.2]),(32,B true),(33,Value.tuple #[Value.agg #[I y80.2.1.1,I y80.2.1.2],I y80.2.2]),(34,Value.agg #[I y80.2.1.1,I y80.2.1.2]),(35,I y80.2.2),(36,Value.agg #[I y80.2.1.1,I y80.2.1.2]),(37,Value.agg #[I (-1),I (-1)]),(38,B (!((y80.2.1.1==(-1))&&(y80.2.1.2==(-1))))),(39,B (!((y80.2.1.1==(-1))&&(y80.2.1.2==(-1))))),(40,(if (!((y80.2.1.1==(-1))&&(y80.2.1.2==(-1))))=true then P b88 0 else undef)),(41,(if (!((y80.2.1.1==(-1))&&(y80.2.1.2==(-1))))=true then I y80.2.1.1 else undef)),(42,(if (!((y80.2.1.1==(-1))&&(y80.2.1.2==(-1))))=true then P b36 (y80.2.1.1.toNat) else undef)),(43,(if (!((y80.2.1.1==(-1))&&(y80.2.1.2==(-1))))=true then I (((relaxL o (ents dn)).1).getD y80.2.1.1.toNat 0) else undef)),(44,(if (!((y80.2.1.1==(-1))&&(y80.2.1.2==(-1))))=true then I y80.2.2 else undef)),(45,(if (!((y80.2.1.1==(-1))&&(y80.2.1.2==(-1))))=true then I (IntKind.i64.wrap ((((relaxL o (ents dn)).1).getD y80.2.1.1.toNat 0)+y80.2.2)) else undef)),(46,(if (!((y80.2.1.1==(-1))&&(y80.2.1.2==(-1))))=true then P b88 1 else undef)),(47,(if (!((y80.2.1.1==(-1))&&(y80.2.1.2==(-1))))=true then I y80.2.1.2 else undef)),(48,(if (!((y80.2.1.1==(-1))&&(y80.2.1.2==(-1))))=true then P b36 (y80.2.1.2.toNat) else undef)),(49,(if (!((y80.2.1.1==(-1))&&(y80.2.1.2==(-1))))=true then I (((relaxL o (ents dn)).1).getD y80.2.1.2.toNat 0) else undef)),(50,(if (!((y80.2.1.1==(-1))&&(y80.2.1.2==(-1))))=true then B (decide ((IntKind.i64.wrap ((((relaxL o (ents dn)).1).getD y80.2.1.1.toNat 0)+y80.2.2)) < (((relaxL o (ents dn)).1).getD y80.2.1.2.toNat 0))) else undef)),(51,B ((!((y80.2.1.1==(-1))&&(y80.2.1.2==(-1))))&&(decide ((IntKind.i64.wrap ((((relaxL o (ents dn)).1).getD y80.2.1.1.toNat 0)+y80.2.2)) < (((relaxL o (ents dn)).1).getD y80.2.1.2.toNat 0)))))] ⟨((hf272 2 rfl).trans (rfl:_=P b24 0)),((hf272 3 rfl).trans (rfl:_=P b27 0)),((hf272 4 rfl).trans (rfl:_=P b30 0)),((hf272 6 rfl).trans (rfl:_=P b36 0)),((hf272 8 rfl).trans (rfl:_=B ((relaxL o (ents dn)).2))),((hf272 9 rfl).trans (rfl:_=P b88 0)),((hf272 10 rfl).trans (rfl:_=I y80.2.2)),((hf272 25 rfl).trans (rfl:_=I (t+2))),((hf272 26 rfl).trans (rfl:_=I (i:Int))),((hf272 27 rfl).trans (rfl:_=B true)),((hf272 28 rfl).trans (rfl:_=P b24 3)),((hf272 29 rfl).trans (rfl:_=Value.map (some m))),((hf272 30 rfl).trans (rfl:_=P r74 0)),((hf272 31 rfl).trans (rfl:_=Value.tuple #[B true,Value.agg #[I y80.2.1.1,I y80.2.1.2],I y80.2.2])),((hf272 32 rfl).trans (rfl:_=B true)),((hf272 33 rfl).trans (rfl:_=Value.tuple #[Value.agg #[I y80.2.1.1,I y80.2.1.2],I y80.2.2])),((hf272 34 rfl).trans (rfl:_=Value.agg #[I y80.2.1.1,I y80.2.1.2])),((hf272 35 rfl).trans (rfl:_=I y80.2.2)),q276,q277,q278,q279,q280,q281,q282,q283,q284,q285,q286,q287,q288,q289,q290,q291,trivial⟩ ?_
    intro g292
    replace S275:St w (fun _=>False) w268 [bx b88 (.cells #[I y80.2.1.1,I y80.2.1.2] 141),bx r74 (itO m clock (dn++[y80])),bx l63 o65,bx D64 (.deferred (some [])),bx b36 (.cells (ivs ((relaxL o (ents dn)).1)).toArray 146),bx b30 (.cells (ivs (List.replicate 9 0)).toArray 146),bx b27 (.cells #[I start] 3),bx b24 (.cells #[I t,I r,Value.slice A n c,Value.map (some m)] 89)] [bx b44 (.cells #[I t,I r,Value.slice A n c,Value.map (some m)] 89),bx m (mapO ekP iE es clock),bx 3 (.cells #[I (-1),I (-1)] 141)]:=S275
    refine wp_nil ?_
    refine c_cond (rfl:_=B ((!((y80.2.1.1==(-1))&&(y80.2.1.2==(-1))))&&(decide ((IntKind.i64.wrap ((((relaxL o (ents dn)).1).getD y80.2.1.1.toNat 0)+y80.2.2)) < (((relaxL o (ents dn)).1).getD y80.2.1.2.toNat 0))))) (fun c293=>?_) (fun c293=>?_)
    ·have c293p:((!((y80.2.1.1==(-1))&&(y80.2.1.2=(-1))))&&(decide ((IntKind.i64.wrap ((((relaxL o (ents dn)).1).getD y80.2.1.1.toNat 0)+y80.2.2)) < (((relaxL o (ents dn)).1).getD y80.2.1.2.toNat 0)))):=by simpa using c293
     refine reg_any mixed 8 (by kernel_rfl) [rv (P b88 1),rv (I y80.2.1.2),rv (P b88 0),rv (I y80.2.1.1),rv (P b36 (y80.2.1.1.toNat)),rv (I (((relaxL o (ents dn)).1).getD y80.2.1.1.toNat 0)),rv (I y80.2.2),rv (I (IntKind.i64.wrap ((((relaxL o (ents dn)).1).getD y80.2.1.1.toNat 0)+y80.2.2)))] [[],[],[],[],[],[],[],[]] rfl (by kernel_rfl) [[],[0],[],[2],[2,3],[2,3,4],[],[2,3,4,5,6],[0,1,2,3,4,5,6,7],[0,1,2,3,4,5,6,7,8],[0,1,2,3,4,5,6,7,8,9]] (by kernel_rfl) ⟨?_,?_,?_,?_,?_,?_,?_,?_,trivial⟩ ?_
     ·intro e294 w295 k297 hf298 hR299
      have S296:St w295 (fun _=>False) w295 [] [bx b88 (.cells #[I y80.2.1.1,I y80.2.1.2] 141),bx r74 (itO m clock (dn++[y80])),bx l63 o65,bx D64 (.deferred (some [])),bx b36 (.cells (ivs ((relaxL o (ents dn)).1)).toArray 146),bx b30 (.cells (ivs (List.replicate 9 0)).toArray 146),bx b27 (.cells #[I start] 3),bx b24 (.cells #[I t,I r,Value.slice A n c,Value.map (some m)] 89),bx b44 (.cells #[I t,I r,Value.slice A n c,Value.map (some m)] 89),bx m (mapO ekP iE es clock),bx 3 (.cells #[I (-1),I (-1)] 141)]:=S275.asP k297
      refine hopE [(9,P b88 0)] ⟨((hf298 9 rfl).trans (rfl:_=P b88 0)),trivial⟩ ?_
      refine o_fld (rfl:_=P b88 0) fl141_1 (rfl:_=1) ?_
      refine wp_nil ?_
      exact ⟨_,rfl,S296.keep,rfl⟩
     ·intro e300 w301 k303 hf304 hR305
      have S302:St w301 (fun _=>False) w301 [] [bx b88 (.cells #[I y80.2.1.1,I y80.2.1.2] 141),bx r74 (itO m clock (dn++[y80])),bx l63 o65,bx D64 (.deferred (some [])),bx b36 (.cells (ivs ((relaxL o (ents dn)).1)).toArray 146),bx b30 (.cells (ivs (List.replicate 9 0)).toArray 146),bx b27 (.cells #[I start] 3),bx b24 (.cells #[I t,I r,Value.slice A n c,Value.map (some m)] 89),bx b44 (.cells #[I t,I r,Value.slice A n c,Value.map (some m)] 89),bx m (mapO ekP iE es clock),bx 3 (.cells #[I (-1),I (-1)] 141)]:=S275.asP k303
      obtain ⟨lo306,hi307,_,_,q308⟩:=hR305 0 52 rfl (Nat.le_of_ble_eq_true rfl) rfl
      replace q308:e300 52=P b88 1:=q308
      refine hopE [(52,P b88 1)] ⟨q308,trivial⟩ ?_
      refine o_ld1 (rfl:_=P b88 1) ty3 ((cell_of (S302.atP (i:=0) rfl) 1).trans (rfl:_=some (I y80.2.1.2))) ?_
      refine wp_nil ?_
      exact ⟨_,rfl,S302.keep,rfl⟩
     ·intro e309 w310 k312 hf313 hR314
      have S311:St w310 (fun _=>False) w310 [] [bx b88 (.cells #[I y80.2.1.1,I y80.2.1.2] 141),bx r74 (itO m clock (dn++[y80])),bx l63 o65,bx D64 (.deferred (some [])),bx b36 (.cells (ivs ((relaxL o (ents dn)).1)).toArray 146),bx b30 (.cells (ivs (List.replicate 9 0)).toArray 146),bx b27 (.cells #[I start] 3),bx b24 (.cells #[I t,I r,Value.slice A n c,Value.map (some m)] 89),bx b44 (.cells #[I t,I r,Value.slice A n c,Value.map (some m)] 89),bx m (mapO ekP iE es clock),bx 3 (.cells #[I (-1),I (-1)] 141)]:=S275.asP k312
      refine hopE [(9,P b88 0)] ⟨((hf313 9 rfl).trans (rfl:_=P b88 0)),trivial⟩ ?_
      refine o_fld (rfl:_=P b88 0) fl141_0 (rfl:_=0) ?_
      refine wp_nil ?_
      exact ⟨_,rfl,S311.keep,rfl⟩
     ·intro e315 w316 k318 hf319 hR320
      have S317:St w316 (fun _=>False) w316 [] [bx b88 (.cells #[I y80.2.1.1,I y80.2.1.2] 141),bx r74 (itO m clock (dn++[y80])),bx l63 o65,bx D64 (.deferred (some [])),bx b36 (.cells (ivs ((relaxL o (ents dn)).1)).toArray 146),bx b30 (.cells (ivs (List.replicate 9 0)).toArray 146),bx b27 (.cells #[I start] 3),bx b24 (.cells #[I t,I r,Value.slice A n c,Value.map (some m)] 89),bx b44 (.cells #[I t,I r,Value.slice A n c,Value.map (some m)] 89),bx m (mapO ekP iE es clock),bx 3 (.cells #[I (-1),I (-1)] 141)]:=S275.asP k318
      obtain ⟨lo321,hi322,_,_,q323⟩:=hR320 2 54 rfl (Nat.le_of_ble_eq_true rfl) rfl
      replace q323:e315 54=P b88 0:=q323
      refine hopE [(54,P b88 0)] ⟨q323,trivial⟩ ?_
      refine o_ld1 (rfl:_=P b88 0) ty3 ((cell_of (S317.atP (i:=0) rfl) 0).trans (rfl:_=some (I y80.2.1.1))) ?_
      refine wp_nil ?_
      exact ⟨_,rfl,S317.keep,rfl⟩
     ·intro e324 w325 k327 hf328 hR329
      have S326:St w325 (fun _=>False) w325 [] [bx b88 (.cells #[I y80.2.1.1,I y80.2.1.2] 141),bx r74 (itO m clock (dn++[y80])),bx l63 o65,bx D64 (.deferred (some [])),bx b36 (.cells (ivs ((relaxL o (ents dn)).1)).toArray 146),bx b30 (.cells (ivs (List.replicate 9 0)).toArray 146),bx b27 (.cells #[I start] 3),bx b24 (.cells #[I t,I r,Value.slice A n c,Value.map (some m)] 89),bx b44 (.cells #[I t,I r,Value.slice A n c,Value.map (some m)] 89),bx m (mapO ekP iE es clock),bx 3 (.cells #[I (-1),I (-1)] 141)]:=S275.asP k327
      obtain ⟨lo330,hi331,_,_,q332⟩:=hR329 3 55 rfl (Nat.le_of_ble_eq_true rfl) rfl
      replace q332:e324 55=I y80.2.1.1:=q332
      refine hopE [(6,P b36 0),(55,I y80.2.1.1)] ⟨((hf328 6 rfl).trans (rfl:_=P b36 0)),q332,trivial⟩ ?_
      refine o_ixA (rfl:_=P b36 0) (rfl:_=I y80.2.1.1) ar146 (by omega) (by omega) (by simp:_=y80.2.1.1.toNat) ?_
      refine wp_nil ?_
      exact ⟨_,rfl,S326.keep,rfl⟩
     ·intro e333 w334 k336 hf337 hR338
      have S335:St w334 (fun _=>False) w334 [] [bx b88 (.cells #[I y80.2.1.1,I y80.2.1.2] 141),bx r74 (itO m clock (dn++[y80])),bx l63 o65,bx D64 (.deferred (some [])),bx b36 (.cells (ivs ((relaxL o (ents dn)).1)).toArray 146),bx b30 (.cells (ivs (List.replicate 9 0)).toArray 146),bx b27 (.cells #[I start] 3),bx b24 (.cells #[I t,I r,Value.slice A n c,Value.map (some m)] 89),bx b44 (.cells #[I t,I r,Value.slice A n c,Value.map (some m)] 89),bx m (mapO ekP iE es clock),bx 3 (.cells #[I (-1),I (-1)] 141)]:=S275.asP k336
      obtain ⟨lo339,hi340,_,_,q341⟩:=hR338 4 56 rfl (Nat.le_of_ble_eq_true rfl) rfl
      replace q341:e333 56=P b36 (y80.2.1.1.toNat):=q341
      refine hopE [(56,P b36 (y80.2.1.1.toNat))] ⟨q341,trivial⟩ ?_
      refine o_ld1 (rfl:_=P b36 (y80.2.1.1.toNat)) ty3 (ivs_cell (S335.atP (i:=4) rfl) (getD_in (by have:=(show ((relaxL o (ents dn)).1:List Int).length=9 from (Eq.trans (relaxL_len _ _) (show (o:List Int).length=9 from ho))); omega))) ?_
      refine wp_nil ?_
      exact ⟨_,rfl,S335.keep,rfl⟩
     ·intro e342 w343 k345 hf346 hR347
      have S344:St w343 (fun _=>False) w343 [] [bx b88 (.cells #[I y80.2.1.1,I y80.2.1.2] 141),bx r74 (itO m clock (dn++[y80])),bx l63 o65,bx D64 (.deferred (some [])),bx b36 (.cells (ivs ((relaxL o (ents dn)).1)).toArray 146),bx b30 (.cells (ivs (List.replicate 9 0)).toArray 146),bx b27 (.cells #[I start] 3),bx b24 (.cells #[I t,I r,Value.slice A n c,Value.map (some m)] 89),bx b44 (.cells #[I t,I r,Value.slice A n c,Value.map (some m)] 89),bx m (mapO ekP iE es clock),bx 3 (.cells #[I (-1),I (-1)] 141)]:=S275.asP k345
      refine hopE [(10,I y80.2.2)] ⟨((hf346 10 rfl).trans (rfl:_=I y80.2.2)),trivial⟩ ?_
      refine o_mov (rfl:_=I y80.2.2) ?_
      refine wp_nil ?_
      exact ⟨_,rfl,S344.keep,rfl⟩
     ·intro e348 w349 k351 hf352 hR353
      have S350:St w349 (fun _=>False) w349 [] [bx b88 (.cells #[I y80.2.1.1,I y80.2.1.2] 141),bx r74 (itO m clock (dn++[y80])),bx l63 o65,bx D64 (.deferred (some [])),bx b36 (.cells (ivs ((relaxL o (ents dn)).1)).toArray 146),bx b30 (.cells (ivs (List.replicate 9 0)).toArray 146),bx b27 (.cells #[I start] 3),bx b24 (.cells #[I t,I r,Value.slice A n c,Value.map (some m)] 89),bx b44 (.cells #[I t,I r,Value.slice A n c,Value.map (some m)] 89),bx m (mapO ekP iE es clock),bx 3 (.cells #[I (-1),I (-1)] 141)]:=S275.asP k351
      obtain ⟨lo354,hi355,_,_,q356⟩:=hR353 5 57 rfl (Nat.le_of_ble_eq_true rfl) rfl
      replace q356:e348 57=I (((relaxL o (ents dn)).1).getD y80.2.1.1.toNat 0):=q356
      obtain ⟨lo357,hi358,_,_,q359⟩:=hR353 6 58 rfl (Nat.le_of_ble_eq_true rfl) rfl
      replace q359:e348 58=I y80.2.2:=q359
      refine hopE [(57,I (((relaxL o (ents dn)).1).getD y80.2.1.1.toNat 0)),(58,I y80.2.2)] ⟨q356,q359,trivial⟩ ?_
      refine o_add (rfl:_=I (((relaxL o (ents dn)).1).getD y80.2.1.1.toNat 0)) (rfl:_=I y80.2.2) (rfl:_=IntKind.i64.wrap ((((relaxL o (ents dn)).1).getD y80.2.1.1.toNat 0)+y80.2.2)) ?_
      refine wp_nil ?_
      exact ⟨_,rfl,S350.keep,rfl⟩
     intro e360 w361 lo362 hi363 k364 hf365 hR366 hd367
     have S368:=S275.call k364
     have q369:e360 52=P b88 1:=(hR366 0 52 (Nat.le_of_ble_eq_true rfl) rfl).2.2.2
     have q370:e360 53=I y80.2.1.2:=(hR366 1 53 (Nat.le_of_ble_eq_true rfl) rfl).2.2.2
     have q371:e360 54=P b88 0:=(hR366 2 54 (Nat.le_of_ble_eq_true rfl) rfl).2.2.2
     have q372:e360 55=I y80.2.1.1:=(hR366 3 55 (Nat.le_of_ble_eq_true rfl) rfl).2.2.2
     have q373:e360 56=P b36 (y80.2.1.1.toNat):=(hR366 4 56 (Nat.le_of_ble_eq_true rfl) rfl).2.2.2
     have q374:e360 57=I (((relaxL o (ents dn)).1).getD y80.2.1.1.toNat 0):=(hR366 5 57 (Nat.le_of_ble_eq_true rfl) rfl).2.2.2
     have q375:e360 58=I y80.2.2:=(hR366 6 58 (Nat.le_of_ble_eq_true rfl) rfl).2.2.2
     have q376:e360 59=I (IntKind.i64.wrap ((((relaxL o (ents dn)).1).getD y80.2.1.1.toNat 0)+y80.2.2)):=(hR366 7 59 (Nat.le_of_ble_eq_true rfl) rfl).2.2.2
     refine tailE [(2,P b24 0),(3,P b27 0),(4,P b30 0),(6,P b36 0),(8,B ((relaxL o (ents dn)).2)),(9,P b88 0),(10,I y80.2.2),(25,I (t+2)),(26,I (i:Int)),(27,B true),(28,P b24 3),(29,Value.map (some m)),(30,P r74 0),(31,Value.tuple #[B true,Value.agg #[I y80.2.1.1,I y80.2.1.2],I y80.2.2]),(32,B true),(33,Value.tuple #[Value.agg #[I y80.2.1.1,I y80.2.1.2],I y80.2.2]),(34,Value.agg #[I y80.2.1.1,I y80.2.1.2]),(35,I y80.2.2),(36,Value.agg #[I y80.2.1.1,I y80.2.1.2]),(37,Value.agg #[I (-1),I (-1)]),(38,B (!((y80.2.1.1==(-1))&&(y80.2.1.2==(-1))))),(39,B (!((y80.2.1.1==(-1))&&(y80.2.1.2==(-1))))),(40,(if (!((y80.2.1.1==(-1))&&(y80.2.1.2==(-1))))=true then P b88 0 else undef)),(41,(if (!((y80.2.1.1==(-1))&&(y80.2.1.2==(-1))))=true then I y80.2.1.1 else undef)),(42,(if (!((y80.2.1.1==(-1))&&(y80.2.1.2==(-1))))=true then P b36 (y80.2.1.1.toNat) else undef)),(43,(if (!((y80.2.1.1==(-1))&&(y80.2.1.2==(-1))))=true then I (((relaxL o (ents dn)).1).getD y80.2.1.1.toNat 0) else undef)),(44,(if (!((y80.2.1.1==(-1))&&(y80.2.1.2==(-1))))=true then I y80.2.2 else undef)),(45,(if (!((y80.2.1.1==(-1))&&(y80.2.1.2==(-1))))=true then I (IntKind.i64.wrap ((((relaxL o (ents dn)).1).getD y80.2.1.1.toNat 0)+y80.2.2)) else undef)),(46,(if (!((y80.2.1.1==(-1))&&(y80.2.1.2==(-1))))=true then P b88 1 else undef)),(47,(if (!((y80.2.1.1==(-1))&&(y80.2.1.2==(-1))))=true then I y80.2.1.2 else undef)),(48,(if (!((y80.2.1.1==(-1))&&(y80.2.1.2==(-1))))=true then P b36 (y80.2.1.2.toNat) else undef)),(49,(if (!((y80.2.1.1==(-1))&&(y80.2.1.2==(-1))))=true then I (((relaxL o (ents dn)).1).getD y80.2.1.2.toNat 0) else undef)),(50,(if (!((y80.2.1.1==(-1))&&(y80.2.1.2==(-1))))=true then B (decide ((IntKind.i64.wrap ((((relaxL o (ents dn)).1).getD y80.2.1.1.toNat 0)+y80.2.2)) < (((relaxL o (ents dn)).1).getD y80.2.1.2.toNat 0))) else undef)),(51,B true),(52,P b88 1),(53,I y80.2.1.2),(54,P b88 0),(55,I y80.2.1.1),(56,P b36 (y80.2.1.1.toNat)),(57,I (((relaxL o (ents dn)).1).getD y80.2.1.1.toNat 0)),(58,I y80.2.2),(59,I (IntKind.i64.wrap ((((relaxL o (ents dn)).1).getD y80.2.1.1.toNat 0)+y80.2.2)))] ⟨((hf365 2 rfl).trans (rfl:_=P b24 0)),((hf365 3 rfl).trans (rfl:_=P b27 0)),((hf365 4 rfl).trans (rfl:_=P b30 0)),((hf365 6 rfl).trans (rfl:_=P b36 0)),((hf365 8 rfl).trans (rfl:_=B ((relaxL o (ents dn)).2))),((hf365 9 rfl).trans (rfl:_=P b88 0)),((hf365 10 rfl).trans (rfl:_=I y80.2.2)),((hf365 25 rfl).trans (rfl:_=I (t+2))),((hf365 26 rfl).trans (rfl:_=I (i:Int))),((hf365 27 rfl).trans (rfl:_=B true)),((hf365 28 rfl).trans (rfl:_=P b24 3)),((hf365 29 rfl).trans (rfl:_=Value.map (some m))),((hf365 30 rfl).trans (rfl:_=P r74 0)),((hf365 31 rfl).trans (rfl:_=Value.tuple #[B true,Value.agg #[I y80.2.1.1,I y80.2.1.2],I y80.2.2])),((hf365 32 rfl).trans (rfl:_=B true)),((hf365 33 rfl).trans (rfl:_=Value.tuple #[Value.agg #[I y80.2.1.1,I y80.2.1.2],I y80.2.2])),((hf365 34 rfl).trans (rfl:_=Value.agg #[I y80.2.1.1,I y80.2.1.2])),((hf365 35 rfl).trans (rfl:_=I y80.2.2)),((hf365 36 rfl).trans (rfl:_=Value.agg #[I y80.2.1.1,I y80.2.1.2])),((hf365 37 rfl).trans (rfl:_=Value.agg #[I (-1),I (-1)])),((hf365 38 rfl).trans (rfl:_=B (!((y80.2.1.1==(-1))&&(y80.2.1.2==(-1)))))),((hf365 39 rfl).trans (rfl:_=B (!((y80.2.1.1==(-1))&&(y80.2.1.2==(-1)))))),((hf365 40 rfl).trans (rfl:_=(if (!((y80.2.1.1==(-1))&&(y80.2.1.2==(-1))))=true then P b88 0 else undef))),((hf365 41 rfl).trans (rfl:_=(if (!((y80.2.1.1==(-1))&&(y80.2.1.2==(-1))))=true then I y80.2.1.1 else undef))),((hf365 42 rfl).trans (rfl:_=(if (!((y80.2.1.1==(-1))&&(y80.2.1.2==(-1))))=true then P b36 (y80.2.1.1.toNat) else undef))),((hf365 43 rfl).trans (rfl:_=(if (!((y80.2.1.1==(-1))&&(y80.2.1.2==(-1))))=true then I (((relaxL o (ents dn)).1).getD y80.2.1.1.toNat 0) else undef))),((hf365 44 rfl).trans (rfl:_=(if (!((y80.2.1.1==(-1))&&(y80.2.1.2==(-1))))=true then I y80.2.2 else undef))),((hf365 45 rfl).trans (rfl:_=(if (!((y80.2.1.1==(-1))&&(y80.2.1.2==(-1))))=true then I (IntKind.i64.wrap ((((relaxL o (ents dn)).1).getD y80.2.1.1.toNat 0)+y80.2.2)) else undef))),((hf365 46 rfl).trans (rfl:_=(if (!((y80.2.1.1==(-1))&&(y80.2.1.2==(-1))))=true then P b88 1 else undef))),((hf365 47 rfl).trans (rfl:_=(if (!((y80.2.1.1==(-1))&&(y80.2.1.2==(-1))))=true then I y80.2.1.2 else undef))),((hf365 48 rfl).trans (rfl:_=(if (!((y80.2.1.1==(-1))&&(y80.2.1.2==(-1))))=true then P b36 (y80.2.1.2.toNat) else undef))),((hf365 49 rfl).trans (rfl:_=(if (!((y80.2.1.1==(-1))&&(y80.2.1.2==(-1))))=true then I (((relaxL o (ents dn)).1).getD y80.2.1.2.toNat 0) else undef))),((hf365 50 rfl).trans (rfl:_=(if (!((y80.2.1.1==(-1))&&(y80.2.1.2==(-1))))=true then B (decide ((IntKind.i64.wrap ((((relaxL o (ents dn)).1).getD y80.2.1.1.toNat 0)+y80.2.2)) < (((relaxL o (ents dn)).1).getD y80.2.1.2.toNat 0))) else undef))),((hf365 51 rfl).trans ((rfl:_=B ((!((y80.2.1.1==(-1))&&(y80.2.1.2==(-1))))&&(decide ((IntKind.i64.wrap ((((relaxL o (ents dn)).1).getD y80.2.1.1.toNat 0)+y80.2.2)) < (((relaxL o (ents dn)).1).getD y80.2.1.2.toNat 0))))).trans (congrArg B c293))),q369,q370,q371,q372,q373,q374,q375,q376,trivial⟩ ?_
     intro g377
     replace S368:St w (fun _=>False) w361 [bx b88 (.cells #[I y80.2.1.1,I y80.2.1.2] 141),bx r74 (itO m clock (dn++[y80])),bx l63 o65,bx D64 (.deferred (some [])),bx b36 (.cells (ivs ((relaxL o (ents dn)).1)).toArray 146),bx b30 (.cells (ivs (List.replicate 9 0)).toArray 146),bx b27 (.cells #[I start] 3),bx b24 (.cells #[I t,I r,Value.slice A n c,Value.map (some m)] 89)] [bx b44 (.cells #[I t,I r,Value.slice A n c,Value.map (some m)] 89),bx m (mapO ekP iE es clock),bx 3 (.cells #[I (-1),I (-1)] 141)]:=S368
     refine o_ixA (rfl:_=P b36 0) (rfl:_=I y80.2.1.2) ar146 (by omega) (by omega) (by simp:_=y80.2.1.2.toNat) ?_
     refine o_sto (rfl:_=P b36 (y80.2.1.2.toNat)) (rfl:_=I (IntKind.i64.wrap ((((relaxL o (ents dn)).1).getD y80.2.1.1.toNat 0)+y80.2.2))) rfl sz3 rfl rfl S368 (i:=4) rfl (by have h1_:=(show ((relaxL o (ents dn)).1:List Int).length=9 from (Eq.trans (relaxL_len _ _) (show (o:List Int).length=9 from ho))); show _+1≤_; simp only [List.size_toArray,ivs_len]; omega) ivs_set fun w378 S379=>?_
     replace S379:St w (fun _=>False) w378 [bx b88 (.cells #[I y80.2.1.1,I y80.2.1.2] 141),bx r74 (itO m clock (dn++[y80])),bx l63 o65,bx D64 (.deferred (some [])),bx b36 (.cells (ivs (((relaxL o (ents dn)).1).set y80.2.1.2.toNat (IntKind.i64.wrap ((((relaxL o (ents dn)).1).getD y80.2.1.1.toNat 0)+y80.2.2)))).toArray 146),bx b30 (.cells (ivs (List.replicate 9 0)).toArray 146),bx b27 (.cells #[I start] 3),bx b24 (.cells #[I t,I r,Value.slice A n c,Value.map (some m)] 89)] [bx b44 (.cells #[I t,I r,Value.slice A n c,Value.map (some m)] 89),bx m (mapO ekP iE es clock),bx 3 (.cells #[I (-1),I (-1)] 141)]:=S379
     refine o_asg (rfl:_=B true) ?_
     refine wp_nil ?_
     have S380:=S379.pick [1,2,3,4,5,6,7] (by decide) rfl (k:=0) rfl
     have e_:(relaxL o (ents (dn++[y80])))=(((relaxL o (ents dn)).1).set y80.2.1.2.toNat (IntKind.i64.wrap ((((relaxL o (ents dn)).1).getD y80.2.1.1.toNat 0)+y80.2.2)),true):=(relaxL_map _ _ _).trans (relax_yes c293)
     have e1_:((relaxL o (ents dn)).1).set y80.2.1.2.toNat (IntKind.i64.wrap ((((relaxL o (ents dn)).1).getD y80.2.1.1.toNat 0)+y80.2.2))=(relaxL o (ents (dn++[y80]))).1:=(congrArg Prod.fst e_).symm
     have e2_:true=(relaxL o (ents (dn++[y80]))).2:=(congrArg Prod.snd e_).symm
     have S381:St w (fun _=>False) w378 [bx r74 (itO m clock (dn++[y80])),bx l63 o65,bx D64 (.deferred (some [])),bx b36 (.cells (ivs ((relaxL o (ents (dn++[y80]))).1)).toArray 146),bx b30 (.cells (ivs (List.replicate 9 0)).toArray 146),bx b27 (.cells #[I start] 3),bx b24 (.cells #[I t,I r,Value.slice A n c,Value.map (some m)] 89)] [bx b44 (.cells #[I t,I r,Value.slice A n c,Value.map (some m)] 89),bx m (mapO ekP iE es clock),bx 3 (.cells #[I (-1),I (-1)] 141)]:=S380.reX (by first | (rw [e1_]; done) | (rw [e1_]; rfl))
     exact ⟨dn++[y80],_,rfl,⟨rfl,rfl,rfl,rfl,(congrArg B e2_),rfl,rfl,rfl,rfl,rfl,rfl,trivial⟩,⟨dn_mem hd1 hy81,dn_snoc (es:=es) hd2 hn82,S381⟩,dn_lt hd1 hd2 hy81 hn82⟩
    ·have c293p:¬(((!((y80.2.1.1==(-1))&&(y80.2.1.2=(-1))))&&(decide ((IntKind.i64.wrap ((((relaxL o (ents dn)).1).getD y80.2.1.1.toNat 0)+y80.2.2)) < (((relaxL o (ents dn)).1).getD y80.2.1.2.toNat 0))))):=by simpa using c293
     refine c_skip ?_
     have S382:=S275.pick [1,2,3,4,5,6,7] (by decide) rfl (k:=0) rfl
     have e_:(relaxL o (ents (dn++[y80])))=relaxL o (ents dn):=(relaxL_map _ _ _).trans (relax_no c293)
     have e1_:(relaxL o (ents dn)).1=(relaxL o (ents (dn++[y80]))).1:=(congrArg Prod.fst e_).symm
     have e2_:(relaxL o (ents dn)).2=(relaxL o (ents (dn++[y80]))).2:=(congrArg Prod.snd e_).symm
     have S383:St w (fun _=>False) w268 [bx r74 (itO m clock (dn++[y80])),bx l63 o65,bx D64 (.deferred (some [])),bx b36 (.cells (ivs ((relaxL o (ents (dn++[y80]))).1)).toArray 146),bx b30 (.cells (ivs (List.replicate 9 0)).toArray 146),bx b27 (.cells #[I start] 3),bx b24 (.cells #[I t,I r,Value.slice A n c,Value.map (some m)] 89)] [bx b44 (.cells #[I t,I r,Value.slice A n c,Value.map (some m)] 89),bx m (mapO ekP iE es clock),bx 3 (.cells #[I (-1),I (-1)] 141)]:=S382.reX (by first | (rw [e1_]; done) | (rw [e1_]; rfl))
     exact ⟨dn++[y80],_,rfl,⟨rfl,rfl,rfl,rfl,(congrArg B e2_),rfl,rfl,rfl,rfl,rfl,rfl,trivial⟩,⟨dn_mem hd1 hy81,dn_snoc (es:=es) hd2 hn82,S383⟩,dn_lt hd1 hd2 hy81 hn82⟩
   ·refine o_ext (rfl:_=Value.tuple #[B false]) (rfl:_=some (B false)) ?_
    refine wp_nil ?_
    refine c_seq ?_
    refine c_false (rfl:_=B false) ?_
    refine c_exit ?_
    refine c_seq ?_
    refine c_seq ?_
    refine reg ?_
    refine o_mov (rfl:_=B ((relaxL o (ents dn)).2)) ?_
    refine o_not (rfl:_=B ((relaxL o (ents dn)).2)) ?_
    refine wp_nil ?_
    refine c_cond (rfl:_=B (!((relaxL o (ents dn)).2))) (fun c384=>?_) (fun c384=>?_)
    ·have c385:((relaxL o (ents dn)).2)=false:=notT c384
     refine c_exit ?_
     refine c_seq ?_
     refine c_seq ?_
     refine reg ?_
     refine o_fld (rfl:_=P b24 0) fl89_1 (rfl:_=3) ?_
     refine o_ld1 (rfl:_=P b24 3) ty87 ((cell_of (S86.at (i:=6) rfl) 3).trans (rfl:_=some (Value.map (some m)))) ?_
     refine o_range (ek:=ekP) (ev:=iE) (rfl:_=Value.map (some m)) mt87 (S86.atP (i:=1) rfl) S86 fun r386 w387 hr386 S388=>?_
     replace S388:St w (fun _=>False) w387 [bx r386 (itO m clock []),bx r74 (itO m clock dn),bx l63 o65,bx D64 (.deferred (some [])),bx b36 (.cells (ivs ((relaxL o (ents dn)).1)).toArray 146),bx b30 (.cells (ivs (List.replicate 9 0)).toArray 146),bx b27 (.cells #[I start] 3),bx b24 (.cells #[I t,I r,Value.slice A n c,Value.map (some m)] 89)] [bx b44 (.cells #[I t,I r,Value.slice A n c,Value.map (some m)] 89),bx m (mapO ekP iE es clock),bx 3 (.cells #[I (-1),I (-1)] 141)]:=S388
     refine wp_nil ?_
     refine c_block ?_
     have hF:RoundsR start.toNat (ents es) (t+2).toNat (initO start (t+1).toNat) (some ((relaxL o (ents dn)).1)):=hR _ (by rw [show (t+2).toNat - i=((t+2).toNat - (i+1))+1 by omega]; exact .calm ⟨_,done_perm hst hd1 hd2 ha87,Prod.ext rfl c385⟩)
     refine c_loop (α:=(List (Nat×(Int×Int)×Int))) (fun (dz:List (Nat×(Int×Int)×Int))=>[(4,P b30 0),(6,P b36 0),(71,P r386 0)]) (fun (dz:List (Nat×(Int×Int)×Int)) (w_:World)=>(∀ y∈dz,y∈es)∧((dz.map (·.1)).Nodup)∧((ents dz).any (viol ((relaxL o (ents dn)).1))=false)∧St w (fun _=>False) w_ [bx r386 (itO m clock dz),bx r74 (itO m clock dn),bx l63 o65,bx D64 (.deferred (some [])),bx b36 (.cells (ivs ((relaxL o (ents dn)).1)).toArray 146),bx b30 (.cells (ivs (List.replicate 9 0)).toArray 146),bx b27 (.cells #[I start] 3),bx b24 (.cells #[I t,I r,Value.slice A n c,Value.map (some m)] 89)] [bx b44 (.cells #[I t,I r,Value.slice A n c,Value.map (some m)] 89),bx m (mapO ekP iE es clock),bx 3 (.cells #[I (-1),I (-1)] 141)]) (fun (dz:List (Nat×(Int×Int)×Int))=>es.length - dz.length) [] ⟨rfl,rfl,rfl,trivial⟩ ⟨(fun _ h_=>(List.not_mem_nil h_).elim),List.nodup_nil,rfl,S388⟩ ?_
     rintro dz e391 w389 ⟨hz1,hz2,hzv,S390⟩
     replace S390:St w (fun _=>False) w389 [bx r386 (itO m clock dz),bx r74 (itO m clock dn),bx l63 o65,bx D64 (.deferred (some [])),bx b36 (.cells (ivs ((relaxL o (ents dn)).1)).toArray 146),bx b30 (.cells (ivs (List.replicate 9 0)).toArray 146),bx b27 (.cells #[I start] 3),bx b24 (.cells #[I t,I r,Value.slice A n c,Value.map (some m)] 89)] [bx b44 (.cells #[I t,I r,Value.slice A n c,Value.map (some m)] 89),bx m (mapO ekP iE es clock),bx 3 (.cells #[I (-1),I (-1)] 141)]:=S390
     refine c_seq ?_
     refine reg ?_
     refine o_next (rfl:_=P r386 0) (S390.atP (i:=1) rfl) hst S390 (k:=0) rfl (fun y392 w395 hy393 hn394 S396=>?_) (fun w397 ha399 S398=>?_)
     ·have hke_:=hk y392.2 (List.mem_map_of_mem hy393)
      replace S396:St w (fun _=>False) w395 [bx r386 (itO m clock (dz++[y392])),bx r74 (itO m clock dn),bx l63 o65,bx D64 (.deferred (some [])),bx b36 (.cells (ivs ((relaxL o (ents dn)).1)).toArray 146),bx b30 (.cells (ivs (List.replicate 9 0)).toArray 146),bx b27 (.cells #[I start] 3),bx b24 (.cells #[I t,I r,Value.slice A n c,Value.map (some m)] 89)] [bx b44 (.cells #[I t,I r,Value.slice A n c,Value.map (some m)] 89),bx m (mapO ekP iE es clock),bx 3 (.cells #[I (-1),I (-1)] 141)]:=S396
      refine o_ext (rfl:_=Value.tuple #[B true,Value.agg #[I y392.2.1.1,I y392.2.1.2],I y392.2.2]) (rfl:_=some (B true)) ?_
      refine wp_nil ?_
      refine c_seq ?_
      refine c_true (rfl:_=B true) ?_
      refine c_skip ?_
      refine c_block ?_
      refine c_seq ?_
      refine reg ?_
      refine o_entry (rfl:_=P r386 0) (S396.atP (i:=1) rfl) hst hy393 S396 (k:=0) rfl ?_
      refine o_ext (rfl:_=Value.tuple #[Value.agg #[I y392.2.1.1,I y392.2.1.2],I y392.2.2]) (rfl:_=some (Value.agg #[I y392.2.1.1,I y392.2.1.2])) ?_
      refine o_ext (rfl:_=Value.tuple #[Value.agg #[I y392.2.1.1,I y392.2.1.2],I y392.2.2]) (rfl:_=some (I y392.2.2)) ?_
      refine o_alloc in141 rfl S396 fun b400 w401 hb400 S402=>?_
      replace S402:St w (fun _=>False) w401 [bx b400 (.cells #[I 0,I 0] 141),bx r386 (itO m clock (dz++[y392])),bx r74 (itO m clock dn),bx l63 o65,bx D64 (.deferred (some [])),bx b36 (.cells (ivs ((relaxL o (ents dn)).1)).toArray 146),bx b30 (.cells (ivs (List.replicate 9 0)).toArray 146),bx b27 (.cells #[I start] 3),bx b24 (.cells #[I t,I r,Value.slice A n c,Value.map (some m)] 89)] [bx b44 (.cells #[I t,I r,Value.slice A n c,Value.map (some m)] 89),bx m (mapO ekP iE es clock),bx 3 (.cells #[I (-1),I (-1)] 141)]:=S402
      refine o_sto (rfl:_=P b400 0) (rfl:_=Value.agg #[I y392.2.1.1,I y392.2.1.2]) rfl sz141 rfl rfl S402 (i:=0) rfl (Nat.le_of_ble_eq_true rfl) (rfl:_=#[I y392.2.1.1,I y392.2.1.2]) fun w403 S404=>?_
      replace S404:St w (fun _=>False) w403 [bx b400 (.cells #[I y392.2.1.1,I y392.2.1.2] 141),bx r386 (itO m clock (dz++[y392])),bx r74 (itO m clock dn),bx l63 o65,bx D64 (.deferred (some [])),bx b36 (.cells (ivs ((relaxL o (ents dn)).1)).toArray 146),bx b30 (.cells (ivs (List.replicate 9 0)).toArray 146),bx b27 (.cells #[I start] 3),bx b24 (.cells #[I t,I r,Value.slice A n c,Value.map (some m)] 89)] [bx b44 (.cells #[I t,I r,Value.slice A n c,Value.map (some m)] 89),bx m (mapO ekP iE es clock),bx 3 (.cells #[I (-1),I (-1)] 141)]:=S404
      refine o_asg (rfl:_=I y392.2.2) ?_
      refine wp_nil ?_
      refine c_seq ?_
      refine reg_any mixed 10 (by kernel_rfl) [rv (P b400 0),rv (I y392.2.1.1),rv (P b36 (y392.2.1.1.toNat)),rv (I (((relaxL o (ents dn)).1).getD y392.2.1.1.toNat 0)),rv (I y392.2.2),rv (I (IntKind.i64.wrap ((((relaxL o (ents dn)).1).getD y392.2.1.1.toNat 0)+y392.2.2))),rv (P b400 1),rv (I y392.2.1.2),rv (P b36 (y392.2.1.2.toNat)),rv (I (((relaxL o (ents dn)).1).getD y392.2.1.2.toNat 0))] [[],[],[],[],[],[],[],[],[],[]] rfl (by kernel_rfl) [[],[0],[0,1],[0,1,2],[],[0,1,2,3,4],[],[6],[6,7],[6,7,8],[0,1,2,3,4,5,6,7,8,9]] (by kernel_rfl) ⟨?_,?_,?_,?_,?_,?_,?_,?_,?_,?_,trivial⟩ ?_
      ·intro e405 w406 k408 hf409 hR410
       have S407:St w406 (fun _=>False) w406 [] [bx b400 (.cells #[I y392.2.1.1,I y392.2.1.2] 141),bx r386 (itO m clock (dz++[y392])),bx r74 (itO m clock dn),bx l63 o65,bx D64 (.deferred (some [])),bx b36 (.cells (ivs ((relaxL o (ents dn)).1)).toArray 146),bx b30 (.cells (ivs (List.replicate 9 0)).toArray 146),bx b27 (.cells #[I start] 3),bx b24 (.cells #[I t,I r,Value.slice A n c,Value.map (some m)] 89),bx b44 (.cells #[I t,I r,Value.slice A n c,Value.map (some m)] 89),bx m (mapO ekP iE es clock),bx 3 (.cells #[I (-1),I (-1)] 141)]:=S404.asP k408
       refine hopE [(11,P b400 0)] ⟨((hf409 11 rfl).trans (rfl:_=P b400 0)),trivial⟩ ?_
       refine o_fld (rfl:_=P b400 0) fl141_0 (rfl:_=0) ?_
       refine wp_nil ?_
       exact ⟨_,rfl,S407.keep,rfl⟩
      ·intro e411 w412 k414 hf415 hR416
       have S413:St w412 (fun _=>False) w412 [] [bx b400 (.cells #[I y392.2.1.1,I y392.2.1.2] 141),bx r386 (itO m clock (dz++[y392])),bx r74 (itO m clock dn),bx l63 o65,bx D64 (.deferred (some [])),bx b36 (.cells (ivs ((relaxL o (ents dn)).1)).toArray 146),bx b30 (.cells (ivs (List.replicate 9 0)).toArray 146),bx b27 (.cells #[I start] 3),bx b24 (.cells #[I t,I r,Value.slice A n c,Value.map (some m)] 89),bx b44 (.cells #[I t,I r,Value.slice A n c,Value.map (some m)] 89),bx m (mapO ekP iE es clock),bx 3 (.cells #[I (-1),I (-1)] 141)]:=S404.asP k414
       obtain ⟨lo417,hi418,_,_,q419⟩:=hR416 0 77 rfl (Nat.le_of_ble_eq_true rfl) rfl
       replace q419:e411 77=P b400 0:=q419
       refine hopE [(77,P b400 0)] ⟨q419,trivial⟩ ?_
       refine o_ld1 (rfl:_=P b400 0) ty3 ((cell_of (S413.atP (i:=0) rfl) 0).trans (rfl:_=some (I y392.2.1.1))) ?_
       refine wp_nil ?_
       exact ⟨_,rfl,S413.keep,rfl⟩
      ·intro e420 w421 k423 hf424 hR425
       have S422:St w421 (fun _=>False) w421 [] [bx b400 (.cells #[I y392.2.1.1,I y392.2.1.2] 141),bx r386 (itO m clock (dz++[y392])),bx r74 (itO m clock dn),bx l63 o65,bx D64 (.deferred (some [])),bx b36 (.cells (ivs ((relaxL o (ents dn)).1)).toArray 146),bx b30 (.cells (ivs (List.replicate 9 0)).toArray 146),bx b27 (.cells #[I start] 3),bx b24 (.cells #[I t,I r,Value.slice A n c,Value.map (some m)] 89),bx b44 (.cells #[I t,I r,Value.slice A n c,Value.map (some m)] 89),bx m (mapO ekP iE es clock),bx 3 (.cells #[I (-1),I (-1)] 141)]:=S404.asP k423
       obtain ⟨lo426,hi427,_,_,q428⟩:=hR425 1 78 rfl (Nat.le_of_ble_eq_true rfl) rfl
       replace q428:e420 78=I y392.2.1.1:=q428
       refine hopE [(6,P b36 0),(78,I y392.2.1.1)] ⟨((hf424 6 rfl).trans (rfl:_=P b36 0)),q428,trivial⟩ ?_
       refine o_ixA (rfl:_=P b36 0) (rfl:_=I y392.2.1.1) ar146 (by omega) (by omega) (by simp:_=y392.2.1.1.toNat) ?_
       refine wp_nil ?_
       exact ⟨_,rfl,S422.keep,rfl⟩
      ·intro e429 w430 k432 hf433 hR434
       have S431:St w430 (fun _=>False) w430 [] [bx b400 (.cells #[I y392.2.1.1,I y392.2.1.2] 141),bx r386 (itO m clock (dz++[y392])),bx r74 (itO m clock dn),bx l63 o65,bx D64 (.deferred (some [])),bx b36 (.cells (ivs ((relaxL o (ents dn)).1)).toArray 146),bx b30 (.cells (ivs (List.replicate 9 0)).toArray 146),bx b27 (.cells #[I start] 3),bx b24 (.cells #[I t,I r,Value.slice A n c,Value.map (some m)] 89),bx b44 (.cells #[I t,I r,Value.slice A n c,Value.map (some m)] 89),bx m (mapO ekP iE es clock),bx 3 (.cells #[I (-1),I (-1)] 141)]:=S404.asP k432
       obtain ⟨lo435,hi436,_,_,q437⟩:=hR434 2 79 rfl (Nat.le_of_ble_eq_true rfl) rfl
       replace q437:e429 79=P b36 (y392.2.1.1.toNat):=q437
       refine hopE [(79,P b36 (y392.2.1.1.toNat))] ⟨q437,trivial⟩ ?_
       refine o_ld1 (rfl:_=P b36 (y392.2.1.1.toNat)) ty3 (ivs_cell (S431.atP (i:=5) rfl) (getD_in (by have:=(show ((relaxL o (ents dn)).1:List Int).length=9 from (Eq.trans (relaxL_len _ _) (show (o:List Int).length=9 from ho))); omega))) ?_
       refine wp_nil ?_
       exact ⟨_,rfl,S431.keep,rfl⟩
      ·intro e438 w439 k441 hf442 hR443
       have S440:St w439 (fun _=>False) w439 [] [bx b400 (.cells #[I y392.2.1.1,I y392.2.1.2] 141),bx r386 (itO m clock (dz++[y392])),bx r74 (itO m clock dn),bx l63 o65,bx D64 (.deferred (some [])),bx b36 (.cells (ivs ((relaxL o (ents dn)).1)).toArray 146),bx b30 (.cells (ivs (List.replicate 9 0)).toArray 146),bx b27 (.cells #[I start] 3),bx b24 (.cells #[I t,I r,Value.slice A n c,Value.map (some m)] 89),bx b44 (.cells #[I t,I r,Value.slice A n c,Value.map (some m)] 89),bx m (mapO ekP iE es clock),bx 3 (.cells #[I (-1),I (-1)] 141)]:=S404.asP k441
       refine hopE [(12,I y392.2.2)] ⟨((hf442 12 rfl).trans (rfl:_=I y392.2.2)),trivial⟩ ?_
       refine o_mov (rfl:_=I y392.2.2) ?_
       refine wp_nil ?_
       exact ⟨_,rfl,S440.keep,rfl⟩
      ·intro e444 w445 k447 hf448 hR449
       have S446:St w445 (fun _=>False) w445 [] [bx b400 (.cells #[I y392.2.1.1,I y392.2.1.2] 141),bx r386 (itO m clock (dz++[y392])),bx r74 (itO m clock dn),bx l63 o65,bx D64 (.deferred (some [])),bx b36 (.cells (ivs ((relaxL o (ents dn)).1)).toArray 146),bx b30 (.cells (ivs (List.replicate 9 0)).toArray 146),bx b27 (.cells #[I start] 3),bx b24 (.cells #[I t,I r,Value.slice A n c,Value.map (some m)] 89),bx b44 (.cells #[I t,I r,Value.slice A n c,Value.map (some m)] 89),bx m (mapO ekP iE es clock),bx 3 (.cells #[I (-1),I (-1)] 141)]:=S404.asP k447
       obtain ⟨lo450,hi451,_,_,q452⟩:=hR449 3 80 rfl (Nat.le_of_ble_eq_true rfl) rfl
       replace q452:e444 80=I (((relaxL o (ents dn)).1).getD y392.2.1.1.toNat 0):=q452
       obtain ⟨lo453,hi454,_,_,q455⟩:=hR449 4 81 rfl (Nat.le_of_ble_eq_true rfl) rfl
       replace q455:e444 81=I y392.2.2:=q455
       refine hopE [(80,I (((relaxL o (ents dn)).1).getD y392.2.1.1.toNat 0)),(81,I y392.2.2)] ⟨q452,q455,trivial⟩ ?_
       refine o_add (rfl:_=I (((relaxL o (ents dn)).1).getD y392.2.1.1.toNat 0)) (rfl:_=I y392.2.2) (rfl:_=IntKind.i64.wrap ((((relaxL o (ents dn)).1).getD y392.2.1.1.toNat 0)+y392.2.2)) ?_
       refine wp_nil ?_
       exact ⟨_,rfl,S446.keep,rfl⟩
      ·intro e456 w457 k459 hf460 hR461
       have S458:St w457 (fun _=>False) w457 [] [bx b400 (.cells #[I y392.2.1.1,I y392.2.1.2] 141),bx r386 (itO m clock (dz++[y392])),bx r74 (itO m clock dn),bx l63 o65,bx D64 (.deferred (some [])),bx b36 (.cells (ivs ((relaxL o (ents dn)).1)).toArray 146),bx b30 (.cells (ivs (List.replicate 9 0)).toArray 146),bx b27 (.cells #[I start] 3),bx b24 (.cells #[I t,I r,Value.slice A n c,Value.map (some m)] 89),bx b44 (.cells #[I t,I r,Value.slice A n c,Value.map (some m)] 89),bx m (mapO ekP iE es clock),bx 3 (.cells #[I (-1),I (-1)] 141)]:=S404.asP k459
       refine hopE [(11,P b400 0)] ⟨((hf460 11 rfl).trans (rfl:_=P b400 0)),trivial⟩ ?_
       refine o_fld (rfl:_=P b400 0) fl141_1 (rfl:_=1) ?_
       refine wp_nil ?_
       exact ⟨_,rfl,S458.keep,rfl⟩
      ·intro e462 w463 k465 hf466 hR467
       have S464:St w463 (fun _=>False) w463 [] [bx b400 (.cells #[I y392.2.1.1,I y392.2.1.2] 141),bx r386 (itO m clock (dz++[y392])),bx r74 (itO m clock dn),bx l63 o65,bx D64 (.deferred (some [])),bx b36 (.cells (ivs ((relaxL o (ents dn)).1)).toArray 146),bx b30 (.cells (ivs (List.replicate 9 0)).toArray 146),bx b27 (.cells #[I start] 3),bx b24 (.cells #[I t,I r,Value.slice A n c,Value.map (some m)] 89),bx b44 (.cells #[I t,I r,Value.slice A n c,Value.map (some m)] 89),bx m (mapO ekP iE es clock),bx 3 (.cells #[I (-1),I (-1)] 141)]:=S404.asP k465
       obtain ⟨lo468,hi469,_,_,q470⟩:=hR467 6 83 rfl (Nat.le_of_ble_eq_true rfl) rfl
       replace q470:e462 83=P b400 1:=q470
       refine hopE [(83,P b400 1)] ⟨q470,trivial⟩ ?_
       refine o_ld1 (rfl:_=P b400 1) ty3 ((cell_of (S464.atP (i:=0) rfl) 1).trans (rfl:_=some (I y392.2.1.2))) ?_
       refine wp_nil ?_
       exact ⟨_,rfl,S464.keep,rfl⟩
      ·intro e471 w472 k474 hf475 hR476
       have S473:St w472 (fun _=>False) w472 [] [bx b400 (.cells #[I y392.2.1.1,I y392.2.1.2] 141),bx r386 (itO m clock (dz++[y392])),bx r74 (itO m clock dn),bx l63 o65,bx D64 (.deferred (some [])),bx b36 (.cells (ivs ((relaxL o (ents dn)).1)).toArray 146),bx b30 (.cells (ivs (List.replicate 9 0)).toArray 146),bx b27 (.cells #[I start] 3),bx b24 (.cells #[I t,I r,Value.slice A n c,Value.map (some m)] 89),bx b44 (.cells #[I t,I r,Value.slice A n c,Value.map (some m)] 89),bx m (mapO ekP iE es clock),bx 3 (.cells #[I (-1),I (-1)] 141)]:=S404.asP k474
       obtain ⟨lo477,hi478,_,_,q479⟩:=hR476 7 84 rfl (Nat.le_of_ble_eq_true rfl) rfl
       replace q479:e471 84=I y392.2.1.2:=q479
       refine hopE [(6,P b36 0),(84,I y392.2.1.2)] ⟨((hf475 6 rfl).trans (rfl:_=P b36 0)),q479,trivial⟩ ?_
       refine o_ixA (rfl:_=P b36 0) (rfl:_=I y392.2.1.2) ar146 (by omega) (by omega) (by simp:_=y392.2.1.2.toNat) ?_
       refine wp_nil ?_
       exact ⟨_,rfl,S473.keep,rfl⟩
      ·intro e480 w481 k483 hf484 hR485
       have S482:St w481 (fun _=>False) w481 [] [bx b400 (.cells #[I y392.2.1.1,I y392.2.1.2] 141),bx r386 (itO m clock (dz++[y392])),bx r74 (itO m clock dn),bx l63 o65,bx D64 (.deferred (some [])),bx b36 (.cells (ivs ((relaxL o (ents dn)).1)).toArray 146),bx b30 (.cells (ivs (List.replicate 9 0)).toArray 146),bx b27 (.cells #[I start] 3),bx b24 (.cells #[I t,I r,Value.slice A n c,Value.map (some m)] 89),bx b44 (.cells #[I t,I r,Value.slice A n c,Value.map (some m)] 89),bx m (mapO ekP iE es clock),bx 3 (.cells #[I (-1),I (-1)] 141)]:=S404.asP k483
       obtain ⟨lo486,hi487,_,_,q488⟩:=hR485 8 85 rfl (Nat.le_of_ble_eq_true rfl) rfl
       replace q488:e480 85=P b36 (y392.2.1.2.toNat):=q488
       refine hopE [(85,P b36 (y392.2.1.2.toNat))] ⟨q488,trivial⟩ ?_
       refine o_ld1 (rfl:_=P b36 (y392.2.1.2.toNat)) ty3 (ivs_cell (S482.atP (i:=5) rfl) (getD_in (by have:=(show ((relaxL o (ents dn)).1:List Int).length=9 from (Eq.trans (relaxL_len _ _) (show (o:List Int).length=9 from ho))); omega))) ?_
       refine wp_nil ?_
       exact ⟨_,rfl,S482.keep,rfl⟩
      intro e489 w490 lo491 hi492 k493 hf494 hR495 hd496
      have S497:=S404.call k493
      have q498:e489 77=P b400 0:=(hR495 0 77 (Nat.le_of_ble_eq_true rfl) rfl).2.2.2
      have q499:e489 78=I y392.2.1.1:=(hR495 1 78 (Nat.le_of_ble_eq_true rfl) rfl).2.2.2
      have q500:e489 79=P b36 (y392.2.1.1.toNat):=(hR495 2 79 (Nat.le_of_ble_eq_true rfl) rfl).2.2.2
      have q501:e489 80=I (((relaxL o (ents dn)).1).getD y392.2.1.1.toNat 0):=(hR495 3 80 (Nat.le_of_ble_eq_true rfl) rfl).2.2.2
      have q502:e489 81=I y392.2.2:=(hR495 4 81 (Nat.le_of_ble_eq_true rfl) rfl).2.2.2
      have q503:e489 82=I (IntKind.i64.wrap ((((relaxL o (ents dn)).1).getD y392.2.1.1.toNat 0)+y392.2.2)):=(hR495 5 82 (Nat.le_of_ble_eq_true rfl) rfl).2.2.2
      have q504:e489 83=P b400 1:=(hR495 6 83 (Nat.le_of_ble_eq_true rfl) rfl).2.2.2
      have q505:e489 84=I y392.2.1.2:=(hR495 7 84 (Nat.le_of_ble_eq_true rfl) rfl).2.2.2
      have q506:e489 85=P b36 (y392.2.1.2.toNat):=(hR495 8 85 (Nat.le_of_ble_eq_true rfl) rfl).2.2.2
      have q507:e489 86=I (((relaxL o (ents dn)).1).getD y392.2.1.2.toNat 0):=(hR495 9 86 (Nat.le_of_ble_eq_true rfl) rfl).2.2.2
      refine tailE [(4,P b30 0),(6,P b36 0),(11,P b400 0),(12,I y392.2.2),(71,P r386 0),(72,Value.tuple #[B true,Value.agg #[I y392.2.1.1,I y392.2.1.2],I y392.2.2]),(73,B true),(74,Value.tuple #[Value.agg #[I y392.2.1.1,I y392.2.1.2],I y392.2.2]),(75,Value.agg #[I y392.2.1.1,I y392.2.1.2]),(76,I y392.2.2),(77,P b400 0),(78,I y392.2.1.1),(79,P b36 (y392.2.1.1.toNat)),(80,I (((relaxL o (ents dn)).1).getD y392.2.1.1.toNat 0)),(81,I y392.2.2),(82,I (IntKind.i64.wrap ((((relaxL o (ents dn)).1).getD y392.2.1.1.toNat 0)+y392.2.2))),(83,P b400 1),(84,I y392.2.1.2),(85,P b36 (y392.2.1.2.toNat)),(86,I (((relaxL o (ents dn)).1).getD y392.2.1.2.toNat 0))] ⟨((hf494 4 rfl).trans (rfl:_=P b30 0)),((hf494 6 rfl).trans (rfl:_=P b36 0)),((hf494 11 rfl).trans (rfl:_=P b400 0)),((hf494 12 rfl).trans (rfl:_=I y392.2.2)),((hf494 71 rfl).trans (rfl:_=P r386 0)),((hf494 72 rfl).trans (rfl:_=Value.tuple #[B true,Value.agg #[I y392.2.1.1,I y392.2.1.2],I y392.2.2])),((hf494 73 rfl).trans (rfl:_=B true)),((hf494 74 rfl).trans (rfl:_=Value.tuple #[Value.agg #[I y392.2.1.1,I y392.2.1.2],I y392.2.2])),((hf494 75 rfl).trans (rfl:_=Value.agg #[I y392.2.1.1,I y392.2.1.2])),((hf494 76 rfl).trans (rfl:_=I y392.2.2)),q498,q499,q500,q501,q502,q503,q504,q505,q506,q507,trivial⟩ ?_
      intro g508
      replace S497:St w (fun _=>False) w490 [bx b400 (.cells #[I y392.2.1.1,I y392.2.1.2] 141),bx r386 (itO m clock (dz++[y392])),bx r74 (itO m clock dn),bx l63 o65,bx D64 (.deferred (some [])),bx b36 (.cells (ivs ((relaxL o (ents dn)).1)).toArray 146),bx b30 (.cells (ivs (List.replicate 9 0)).toArray 146),bx b27 (.cells #[I start] 3),bx b24 (.cells #[I t,I r,Value.slice A n c,Value.map (some m)] 89)] [bx b44 (.cells #[I t,I r,Value.slice A n c,Value.map (some m)] 89),bx m (mapO ekP iE es clock),bx 3 (.cells #[I (-1),I (-1)] 141)]:=S497
      refine o_cmp (rfl:_=I (IntKind.i64.wrap ((((relaxL o (ents dn)).1).getD y392.2.1.1.toNat 0)+y392.2.2))) (rfl:_=I (((relaxL o (ents dn)).1).getD y392.2.1.2.toNat 0)) (rfl:_=some (decide ((IntKind.i64.wrap ((((relaxL o (ents dn)).1).getD y392.2.1.1.toNat 0)+y392.2.2)) < (((relaxL o (ents dn)).1).getD y392.2.1.2.toNat 0)))) ?_
      refine wp_nil ?_
      refine c_cond (rfl:_=B (decide ((IntKind.i64.wrap ((((relaxL o (ents dn)).1).getD y392.2.1.1.toNat 0)+y392.2.2)) < (((relaxL o (ents dn)).1).getD y392.2.1.2.toNat 0)))) (fun c509=>?_) (fun c509=>?_)
      ·have c509p:=of_decide_eq_true c509
       refine c_seq ?_
       refine reg ?_
       refine o_call (g:=_) (first:=#[]) (caps:=#[]) (args:=[]) rfl rfl fu76 rfl (none_ok _) ?_
       rintro _ w510 ⟨rfl,k512⟩
       have S511:=S497.call k512
       refine o_sto (vs:=ivs zeros) (rfl:_=P b30 0) (rfl:_=Value.agg (ivs zeros).toArray) rfl sz146 ((ivs_len _).trans (show (zeros:List Int).length=9 from rfl)) ivs_one S511 (i:=6) rfl (by have h1_:=(show (List.replicate 9 0:List Int).length=9 from List.length_replicate ..); have h2_:=(show (zeros:List Int).length=9 from rfl); simp only [ivs_len,List.size_toArray]; omega) (ivs_put (Eq.trans (show (List.replicate 9 0:List Int).length=9 from List.length_replicate ..) (Eq.symm (show (zeros:List Int).length=9 from rfl)))) fun w513 S514=>?_
       replace S514:St w (fun _=>False) w513 [bx b400 (.cells #[I y392.2.1.1,I y392.2.1.2] 141),bx r386 (itO m clock (dz++[y392])),bx r74 (itO m clock dn),bx l63 o65,bx D64 (.deferred (some [])),bx b36 (.cells (ivs ((relaxL o (ents dn)).1)).toArray 146),bx b30 (.cells (ivs zeros).toArray 146),bx b27 (.cells #[I start] 3),bx b24 (.cells #[I t,I r,Value.slice A n c,Value.map (some m)] 89)] [bx b44 (.cells #[I t,I r,Value.slice A n c,Value.map (some m)] 89),bx m (mapO ekP iE es clock),bx 3 (.cells #[I (-1),I (-1)] 141)]:=S514
       refine o_asg (rfl:_=B false) ?_
       refine wp_nil ?_
       refine c_ret (leave_mark S514 (i:=4) rfl fun w515 S516=>?_)
       replace S516:St w (fun _=>False) w515 [bx b400 (.cells #[I y392.2.1.1,I y392.2.1.2] 141),bx r386 (itO m clock (dz++[y392])),bx r74 (itO m clock dn),bx l63 o65,bx D64 (.deferred none),bx b36 (.cells (ivs ((relaxL o (ents dn)).1)).toArray 146),bx b30 (.cells (ivs zeros).toArray 146),bx b27 (.cells #[I start] 3),bx b24 (.cells #[I t,I r,Value.slice A n c,Value.map (some m)] 89)] [bx b44 (.cells #[I t,I r,Value.slice A n c,Value.map (some m)] 89),bx m (mapO ekP iE es clock),bx 3 (.cells #[I (-1),I (-1)] 141)]:=S516
       show bodyPostM (Fr none) 0 Tryd.prog Tryd.f73 _ .ret _ _
       refine (ret_of (res2 rfl (rvN (cs:=ivs zeros) (rfl:_=P b30 0) ty146 sz146 ((ivs_len _).trans (show (zeros:List Int).length=9 from rfl)) (ivs_cells (S516.at (i:=6) rfl))) (rvT (rfl:_=B false))) ?_)
       exact ⟨_,rfl,_,_,rfl,S516.keep,.inr ⟨_,hF,.inl ⟨List.any_eq_true.2 ⟨y392.2,List.mem_map_of_mem hy393,c509⟩,rfl,rfl⟩⟩⟩
      ·have c509p:=of_decide_eq_false c509
       refine c_skip ?_
       have S517:=S497.pick [1,2,3,4,5,6,7,8] (by decide) rfl (k:=0) rfl
       exact ⟨dz++[y392],_,rfl,⟨rfl,rfl,rfl,trivial⟩,⟨dn_mem hz1 hy393,dn_snoc (es:=es) hz2 hn394,(by rw [ents_any,hzv,Bool.false_or]; simpa [viol] using c509p),S517⟩,dn_lt hz1 hz2 hy393 hn394⟩
     ·refine o_ext (rfl:_=Value.tuple #[B false]) (rfl:_=some (B false)) ?_
      refine wp_nil ?_
      refine c_seq ?_
      refine c_false (rfl:_=B false) ?_
      refine c_exit ?_
      refine c_seq ?_
      refine reg ?_
      refine o_ldN (cs:=ivs ((relaxL o (ents dn)).1)) (rfl:_=P b36 0) ty146 sz146 ((ivs_len _).trans (show ((relaxL o (ents dn)).1:List Int).length=9 from (Eq.trans (relaxL_len _ _) (show (o:List Int).length=9 from ho)))) (ivs_cells (S398.at (i:=4) rfl)) ?_
      refine o_sto (vs:=ivs ((relaxL o (ents dn)).1)) (rfl:_=P b30 0) (rfl:_=Value.agg (ivs ((relaxL o (ents dn)).1)).toArray) rfl sz146 ((ivs_len _).trans (show ((relaxL o (ents dn)).1:List Int).length=9 from (Eq.trans (relaxL_len _ _) (show (o:List Int).length=9 from ho)))) ivs_one S398 (i:=5) rfl (by have h1_:=(show (List.replicate 9 0:List Int).length=9 from List.length_replicate ..); have h2_:=(show ((relaxL o (ents dn)).1:List Int).length=9 from (Eq.trans (relaxL_len _ _) (show (o:List Int).length=9 from ho))); simp only [ivs_len,List.size_toArray]; omega) (ivs_put (Eq.trans (show (List.replicate 9 0:List Int).length=9 from List.length_replicate ..) (Eq.symm (show ((relaxL o (ents dn)).1:List Int).length=9 from (Eq.trans (relaxL_len _ _) (show (o:List Int).length=9 from ho)))))) fun w518 S519=>?_
      replace S519:St w (fun _=>False) w518 [bx r386 (itO m clock dz),bx r74 (itO m clock dn),bx l63 o65,bx D64 (.deferred (some [])),bx b36 (.cells (ivs ((relaxL o (ents dn)).1)).toArray 146),bx b30 (.cells (ivs ((relaxL o (ents dn)).1)).toArray 146),bx b27 (.cells #[I start] 3),bx b24 (.cells #[I t,I r,Value.slice A n c,Value.map (some m)] 89)] [bx b44 (.cells #[I t,I r,Value.slice A n c,Value.map (some m)] 89),bx m (mapO ekP iE es clock),bx 3 (.cells #[I (-1),I (-1)] 141)]:=S519
      refine o_asg (rfl:_=B true) ?_
      refine wp_nil ?_
      refine c_ret (leave_mark S519 (i:=3) rfl fun w520 S521=>?_)
      replace S521:St w (fun _=>False) w520 [bx r386 (itO m clock dz),bx r74 (itO m clock dn),bx l63 o65,bx D64 (.deferred none),bx b36 (.cells (ivs ((relaxL o (ents dn)).1)).toArray 146),bx b30 (.cells (ivs ((relaxL o (ents dn)).1)).toArray 146),bx b27 (.cells #[I start] 3),bx b24 (.cells #[I t,I r,Value.slice A n c,Value.map (some m)] 89)] [bx b44 (.cells #[I t,I r,Value.slice A n c,Value.map (some m)] 89),bx m (mapO ekP iE es clock),bx 3 (.cells #[I (-1),I (-1)] 141)]:=S521
      show bodyPostM (Fr none) 0 Tryd.prog Tryd.f73 _ .ret _ _
      refine (ret_of (res2 rfl (rvN (cs:=ivs ((relaxL o (ents dn)).1)) (rfl:_=P b30 0) ty146 sz146 ((ivs_len _).trans (show ((relaxL o (ents dn)).1:List Int).length=9 from (Eq.trans (relaxL_len _ _) (show (o:List Int).length=9 from ho)))) (ivs_cells (S521.at (i:=5) rfl))) (rvT (rfl:_=B true))) ?_)
      exact ⟨_,rfl,_,_,rfl,S521.keep,.inr ⟨_,hF,.inr ⟨(List.Perm.any_eq (done_perm hst hz1 hz2 ha399)).symm.trans hzv,rfl,rfl⟩⟩⟩
    ·have c522:((relaxL o (ents dn)).2)=true:=notF c384
     refine c_skip ?_
     refine c_seq ?_
     refine reg ?_
     refine o_ld1 (rfl:_=P b27 0) ty3 ((cell_of (S86.at (i:=5) rfl) 0).trans (rfl:_=some (I start))) ?_
     refine o_ixA (rfl:_=P b36 0) (rfl:_=I start) ar146 (by omega) (by omega) (by simp:_=start.toNat) ?_
     refine o_ld1 (rfl:_=P b36 (start.toNat)) ty3 (ivs_cell (S86.at (i:=3) rfl) (getD_in (by have:=(show ((relaxL o (ents dn)).1:List Int).length=9 from (Eq.trans (relaxL_len _ _) (show (o:List Int).length=9 from ho))); omega))) ?_
     refine o_cmp (rfl:_=I (((relaxL o (ents dn)).1).getD start.toNat 0)) (rfl:_=I 0) (rfl:_=some (decide ((((relaxL o (ents dn)).1).getD start.toNat 0) < 0))) ?_
     refine wp_nil ?_
     refine c_cond (rfl:_=B (decide ((((relaxL o (ents dn)).1).getD start.toNat 0) < 0))) (fun c523=>?_) (fun c523=>?_)
     ·have c523p:=of_decide_eq_true c523
      refine c_seq ?_
      refine reg ?_
      refine o_call (g:=_) (first:=#[]) (caps:=#[]) (args:=[]) rfl rfl fu76 rfl (none_ok _) ?_
      rintro _ w524 ⟨rfl,k526⟩
      have S525:=S86.call k526
      refine o_sto (vs:=ivs zeros) (rfl:_=P b30 0) (rfl:_=Value.agg (ivs zeros).toArray) rfl sz146 ((ivs_len _).trans (show (zeros:List Int).length=9 from rfl)) ivs_one S525 (i:=4) rfl (by have h1_:=(show (List.replicate 9 0:List Int).length=9 from List.length_replicate ..); have h2_:=(show (zeros:List Int).length=9 from rfl); simp only [ivs_len,List.size_toArray]; omega) (ivs_put (Eq.trans (show (List.replicate 9 0:List Int).length=9 from List.length_replicate ..) (Eq.symm (show (zeros:List Int).length=9 from rfl)))) fun w527 S528=>?_
      replace S528:St w (fun _=>False) w527 [bx r74 (itO m clock dn),bx l63 o65,bx D64 (.deferred (some [])),bx b36 (.cells (ivs ((relaxL o (ents dn)).1)).toArray 146),bx b30 (.cells (ivs zeros).toArray 146),bx b27 (.cells #[I start] 3),bx b24 (.cells #[I t,I r,Value.slice A n c,Value.map (some m)] 89)] [bx b44 (.cells #[I t,I r,Value.slice A n c,Value.map (some m)] 89),bx m (mapO ekP iE es clock),bx 3 (.cells #[I (-1),I (-1)] 141)]:=S528
      refine o_asg (rfl:_=B false) ?_
      refine wp_nil ?_
      refine c_ret (leave_mark S528 (i:=2) rfl fun w529 S530=>?_)
      replace S530:St w (fun _=>False) w529 [bx r74 (itO m clock dn),bx l63 o65,bx D64 (.deferred none),bx b36 (.cells (ivs ((relaxL o (ents dn)).1)).toArray 146),bx b30 (.cells (ivs zeros).toArray 146),bx b27 (.cells #[I start] 3),bx b24 (.cells #[I t,I r,Value.slice A n c,Value.map (some m)] 89)] [bx b44 (.cells #[I t,I r,Value.slice A n c,Value.map (some m)] 89),bx m (mapO ekP iE es clock),bx 3 (.cells #[I (-1),I (-1)] 141)]:=S530
      show bodyPostM (Fr none) 0 Tryd.prog Tryd.f73 _ .ret _ _
      refine (ret_of (res2 rfl (rvN (cs:=ivs zeros) (rfl:_=P b30 0) ty146 sz146 ((ivs_len _).trans (show (zeros:List Int).length=9 from rfl)) (ivs_cells (S530.at (i:=4) rfl))) (rvT (rfl:_=B false))) ?_)
      exact ⟨_,rfl,_,_,rfl,S530.keep,.inl ⟨hR _ (by rw [show (t+2).toNat - i=((t+2).toNat - (i+1))+1 by omega]; exact .neg ⟨_,done_perm hst hd1 hd2 ha87,Prod.ext rfl c522⟩ c523p),rfl,rfl⟩⟩
     ·have c523p:=of_decide_eq_false c523
      refine c_skip ?_
      refine reg ?_
      refine o_add (rfl:_=I (i:Int)) (rfl:_=I 1) (w64 (by omega) (by omega):_=(i:Int)+1) ?_
      refine o_mov (rfl:_=I ((i:Int)+1)) ?_
      refine wp_nil ?_
      have S531:=S86.pick [1,2,3,4,5,6] (by decide) rfl (k:=0) rfl
      exact ⟨(i+1,(relaxL o (ents dn)).1),_,rfl,⟨rfl,rfl,rfl,rfl,rfl,rfl,trivial⟩,⟨by omega,(relaxL_len _ _).trans ho,(fun res_ h_=>hR res_ (by rw [show (t+2).toNat - i=((t+2).toNat - (i+1))+1 by omega]; exact .go ⟨_,done_perm hst hd1 hd2 ha87,Prod.ext rfl c522⟩ c523p h_)),S531⟩,by simp only []; omega⟩
  ·have c73p:=of_decide_eq_false c73
   refine c_exit ?_
   refine c_seq ?_
   refine c_seq ?_
   refine reg ?_
   refine o_fld (rfl:_=P b24 0) fl89_1 (rfl:_=3) ?_
   refine o_ld1 (rfl:_=P b24 3) ty87 ((cell_of (S71.at (i:=5) rfl) 3).trans (rfl:_=some (Value.map (some m)))) ?_
   refine o_range (ek:=ekP) (ev:=iE) (rfl:_=Value.map (some m)) mt87 (S71.atP (i:=1) rfl) S71 fun r532 w533 hr532 S534=>?_
   replace S534:St w (fun _=>False) w533 [bx r532 (itO m clock []),bx l63 o65,bx D64 (.deferred (some [])),bx b36 (.cells (ivs o).toArray 146),bx b30 (.cells (ivs (List.replicate 9 0)).toArray 146),bx b27 (.cells #[I start] 3),bx b24 (.cells #[I t,I r,Value.slice A n c,Value.map (some m)] 89)] [bx b44 (.cells #[I t,I r,Value.slice A n c,Value.map (some m)] 89),bx m (mapO ekP iE es clock),bx 3 (.cells #[I (-1),I (-1)] 141)]:=S534
   refine wp_nil ?_
   refine c_block ?_
   have hF:RoundsR start.toNat (ents es) (t+2).toNat (initO start (t+1).toNat) (some (o)):=hR _ (by rw [show (t+2).toNat - i=0 by omega]; exact .stop)
   refine c_loop (α:=(List (Nat×(Int×Int)×Int))) (fun (dz:List (Nat×(Int×Int)×Int))=>[(4,P b30 0),(6,P b36 0),(71,P r532 0)]) (fun (dz:List (Nat×(Int×Int)×Int)) (w_:World)=>(∀ y∈dz,y∈es)∧((dz.map (·.1)).Nodup)∧((ents dz).any (viol (o))=false)∧St w (fun _=>False) w_ [bx r532 (itO m clock dz),bx l63 o65,bx D64 (.deferred (some [])),bx b36 (.cells (ivs o).toArray 146),bx b30 (.cells (ivs (List.replicate 9 0)).toArray 146),bx b27 (.cells #[I start] 3),bx b24 (.cells #[I t,I r,Value.slice A n c,Value.map (some m)] 89)] [bx b44 (.cells #[I t,I r,Value.slice A n c,Value.map (some m)] 89),bx m (mapO ekP iE es clock),bx 3 (.cells #[I (-1),I (-1)] 141)]) (fun (dz:List (Nat×(Int×Int)×Int))=>es.length - dz.length) [] ⟨rfl,rfl,rfl,trivial⟩ ⟨(fun _ h_=>(List.not_mem_nil h_).elim),List.nodup_nil,rfl,S534⟩ ?_
   rintro dz e537 w535 ⟨hz1,hz2,hzv,S536⟩
   replace S536:St w (fun _=>False) w535 [bx r532 (itO m clock dz),bx l63 o65,bx D64 (.deferred (some [])),bx b36 (.cells (ivs o).toArray 146),bx b30 (.cells (ivs (List.replicate 9 0)).toArray 146),bx b27 (.cells #[I start] 3),bx b24 (.cells #[I t,I r,Value.slice A n c,Value.map (some m)] 89)] [bx b44 (.cells #[I t,I r,Value.slice A n c,Value.map (some m)] 89),bx m (mapO ekP iE es clock),bx 3 (.cells #[I (-1),I (-1)] 141)]:=S536
   refine c_seq ?_
   refine reg ?_
   refine o_next (rfl:_=P r532 0) (S536.atP (i:=1) rfl) hst S536 (k:=0) rfl (fun y538 w541 hy539 hn540 S542=>?_) (fun w543 ha545 S544=>?_)
   ·have hke_:=hk y538.2 (List.mem_map_of_mem hy539)
    replace S542:St w (fun _=>False) w541 [bx r532 (itO m clock (dz++[y538])),bx l63 o65,bx D64 (.deferred (some [])),bx b36 (.cells (ivs o).toArray 146),bx b30 (.cells (ivs (List.replicate 9 0)).toArray 146),bx b27 (.cells #[I start] 3),bx b24 (.cells #[I t,I r,Value.slice A n c,Value.map (some m)] 89)] [bx b44 (.cells #[I t,I r,Value.slice A n c,Value.map (some m)] 89),bx m (mapO ekP iE es clock),bx 3 (.cells #[I (-1),I (-1)] 141)]:=S542
    refine o_ext (rfl:_=Value.tuple #[B true,Value.agg #[I y538.2.1.1,I y538.2.1.2],I y538.2.2]) (rfl:_=some (B true)) ?_
    refine wp_nil ?_
    refine c_seq ?_
    refine c_true (rfl:_=B true) ?_
    refine c_skip ?_
    refine c_block ?_
    refine c_seq ?_
    refine reg ?_
    refine o_entry (rfl:_=P r532 0) (S542.atP (i:=1) rfl) hst hy539 S542 (k:=0) rfl ?_
    refine o_ext (rfl:_=Value.tuple #[Value.agg #[I y538.2.1.1,I y538.2.1.2],I y538.2.2]) (rfl:_=some (Value.agg #[I y538.2.1.1,I y538.2.1.2])) ?_
    refine o_ext (rfl:_=Value.tuple #[Value.agg #[I y538.2.1.1,I y538.2.1.2],I y538.2.2]) (rfl:_=some (I y538.2.2)) ?_
    refine o_alloc in141 rfl S542 fun b546 w547 hb546 S548=>?_
    replace S548:St w (fun _=>False) w547 [bx b546 (.cells #[I 0,I 0] 141),bx r532 (itO m clock (dz++[y538])),bx l63 o65,bx D64 (.deferred (some [])),bx b36 (.cells (ivs o).toArray 146),bx b30 (.cells (ivs (List.replicate 9 0)).toArray 146),bx b27 (.cells #[I start] 3),bx b24 (.cells #[I t,I r,Value.slice A n c,Value.map (some m)] 89)] [bx b44 (.cells #[I t,I r,Value.slice A n c,Value.map (some m)] 89),bx m (mapO ekP iE es clock),bx 3 (.cells #[I (-1),I (-1)] 141)]:=S548
    refine o_sto (rfl:_=P b546 0) (rfl:_=Value.agg #[I y538.2.1.1,I y538.2.1.2]) rfl sz141 rfl rfl S548 (i:=0) rfl (Nat.le_of_ble_eq_true rfl) (rfl:_=#[I y538.2.1.1,I y538.2.1.2]) fun w549 S550=>?_
    replace S550:St w (fun _=>False) w549 [bx b546 (.cells #[I y538.2.1.1,I y538.2.1.2] 141),bx r532 (itO m clock (dz++[y538])),bx l63 o65,bx D64 (.deferred (some [])),bx b36 (.cells (ivs o).toArray 146),bx b30 (.cells (ivs (List.replicate 9 0)).toArray 146),bx b27 (.cells #[I start] 3),bx b24 (.cells #[I t,I r,Value.slice A n c,Value.map (some m)] 89)] [bx b44 (.cells #[I t,I r,Value.slice A n c,Value.map (some m)] 89),bx m (mapO ekP iE es clock),bx 3 (.cells #[I (-1),I (-1)] 141)]:=S550
    refine o_asg (rfl:_=I y538.2.2) ?_
    refine wp_nil ?_
    refine c_seq ?_
    refine reg_any mixed 10 (by kernel_rfl) [rv (P b546 0),rv (I y538.2.1.1),rv (P b36 (y538.2.1.1.toNat)),rv (I (o.getD y538.2.1.1.toNat 0)),rv (I y538.2.2),rv (I (IntKind.i64.wrap ((o.getD y538.2.1.1.toNat 0)+y538.2.2))),rv (P b546 1),rv (I y538.2.1.2),rv (P b36 (y538.2.1.2.toNat)),rv (I (o.getD y538.2.1.2.toNat 0))] [[],[],[],[],[],[],[],[],[],[]] rfl (by kernel_rfl) [[],[0],[0,1],[0,1,2],[],[0,1,2,3,4],[],[6],[6,7],[6,7,8],[0,1,2,3,4,5,6,7,8,9]] (by kernel_rfl) ⟨?_,?_,?_,?_,?_,?_,?_,?_,?_,?_,trivial⟩ ?_
    ·intro e551 w552 k554 hf555 hR556
     have S553:St w552 (fun _=>False) w552 [] [bx b546 (.cells #[I y538.2.1.1,I y538.2.1.2] 141),bx r532 (itO m clock (dz++[y538])),bx l63 o65,bx D64 (.deferred (some [])),bx b36 (.cells (ivs o).toArray 146),bx b30 (.cells (ivs (List.replicate 9 0)).toArray 146),bx b27 (.cells #[I start] 3),bx b24 (.cells #[I t,I r,Value.slice A n c,Value.map (some m)] 89),bx b44 (.cells #[I t,I r,Value.slice A n c,Value.map (some m)] 89),bx m (mapO ekP iE es clock),bx 3 (.cells #[I (-1),I (-1)] 141)]:=S550.asP k554
     refine hopE [(11,P b546 0)] ⟨((hf555 11 rfl).trans (rfl:_=P b546 0)),trivial⟩ ?_
     refine o_fld (rfl:_=P b546 0) fl141_0 (rfl:_=0) ?_
     refine wp_nil ?_
     exact ⟨_,rfl,S553.keep,rfl⟩
    ·intro e557 w558 k560 hf561 hR562
     have S559:St w558 (fun _=>False) w558 [] [bx b546 (.cells #[I y538.2.1.1,I y538.2.1.2] 141),bx r532 (itO m clock (dz++[y538])),bx l63 o65,bx D64 (.deferred (some [])),bx b36 (.cells (ivs o).toArray 146),bx b30 (.cells (ivs (List.replicate 9 0)).toArray 146),bx b27 (.cells #[I start] 3),bx b24 (.cells #[I t,I r,Value.slice A n c,Value.map (some m)] 89),bx b44 (.cells #[I t,I r,Value.slice A n c,Value.map (some m)] 89),bx m (mapO ekP iE es clock),bx 3 (.cells #[I (-1),I (-1)] 141)]:=S550.asP k560
     obtain ⟨lo563,hi564,_,_,q565⟩:=hR562 0 77 rfl (Nat.le_of_ble_eq_true rfl) rfl
     replace q565:e557 77=P b546 0:=q565
     refine hopE [(77,P b546 0)] ⟨q565,trivial⟩ ?_
     refine o_ld1 (rfl:_=P b546 0) ty3 ((cell_of (S559.atP (i:=0) rfl) 0).trans (rfl:_=some (I y538.2.1.1))) ?_
     refine wp_nil ?_
     exact ⟨_,rfl,S559.keep,rfl⟩
    ·intro e566 w567 k569 hf570 hR571
     have S568:St w567 (fun _=>False) w567 [] [bx b546 (.cells #[I y538.2.1.1,I y538.2.1.2] 141),bx r532 (itO m clock (dz++[y538])),bx l63 o65,bx D64 (.deferred (some [])),bx b36 (.cells (ivs o).toArray 146),bx b30 (.cells (ivs (List.replicate 9 0)).toArray 146),bx b27 (.cells #[I start] 3),bx b24 (.cells #[I t,I r,Value.slice A n c,Value.map (some m)] 89),bx b44 (.cells #[I t,I r,Value.slice A n c,Value.map (some m)] 89),bx m (mapO ekP iE es clock),bx 3 (.cells #[I (-1),I (-1)] 141)]:=S550.asP k569
     obtain ⟨lo572,hi573,_,_,q574⟩:=hR571 1 78 rfl (Nat.le_of_ble_eq_true rfl) rfl
     replace q574:e566 78=I y538.2.1.1:=q574
     refine hopE [(6,P b36 0),(78,I y538.2.1.1)] ⟨((hf570 6 rfl).trans (rfl:_=P b36 0)),q574,trivial⟩ ?_
     refine o_ixA (rfl:_=P b36 0) (rfl:_=I y538.2.1.1) ar146 (by omega) (by omega) (by simp:_=y538.2.1.1.toNat) ?_
     refine wp_nil ?_
     exact ⟨_,rfl,S568.keep,rfl⟩
    ·intro e575 w576 k578 hf579 hR580
     have S577:St w576 (fun _=>False) w576 [] [bx b546 (.cells #[I y538.2.1.1,I y538.2.1.2] 141),bx r532 (itO m clock (dz++[y538])),bx l63 o65,bx D64 (.deferred (some [])),bx b36 (.cells (ivs o).toArray 146),bx b30 (.cells (ivs (List.replicate 9 0)).toArray 146),bx b27 (.cells #[I start] 3),bx b24 (.cells #[I t,I r,Value.slice A n c,Value.map (some m)] 89),bx b44 (.cells #[I t,I r,Value.slice A n c,Value.map (some m)] 89),bx m (mapO ekP iE es clock),bx 3 (.cells #[I (-1),I (-1)] 141)]:=S550.asP k578
     obtain ⟨lo581,hi582,_,_,q583⟩:=hR580 2 79 rfl (Nat.le_of_ble_eq_true rfl) rfl
     replace q583:e575 79=P b36 (y538.2.1.1.toNat):=q583
     refine hopE [(79,P b36 (y538.2.1.1.toNat))] ⟨q583,trivial⟩ ?_
     refine o_ld1 (rfl:_=P b36 (y538.2.1.1.toNat)) ty3 (ivs_cell (S577.atP (i:=4) rfl) (getD_in (by have:=(show (o:List Int).length=9 from ho); omega))) ?_
     refine wp_nil ?_
     exact ⟨_,rfl,S577.keep,rfl⟩
    ·intro e584 w585 k587 hf588 hR589
     have S586:St w585 (fun _=>False) w585 [] [bx b546 (.cells #[I y538.2.1.1,I y538.2.1.2] 141),bx r532 (itO m clock (dz++[y538])),bx l63 o65,bx D64 (.deferred (some [])),bx b36 (.cells (ivs o).toArray 146),bx b30 (.cells (ivs (List.replicate 9 0)).toArray 146),bx b27 (.cells #[I start] 3),bx b24 (.cells #[I t,I r,Value.slice A n c,Value.map (some m)] 89),bx b44 (.cells #[I t,I r,Value.slice A n c,Value.map (some m)] 89),bx m (mapO ekP iE es clock),bx 3 (.cells #[I (-1),I (-1)] 141)]:=S550.asP k587
     refine hopE [(12,I y538.2.2)] ⟨((hf588 12 rfl).trans (rfl:_=I y538.2.2)),trivial⟩ ?_
     refine o_mov (rfl:_=I y538.2.2) ?_
     refine wp_nil ?_
     exact ⟨_,rfl,S586.keep,rfl⟩
    ·intro e590 w591 k593 hf594 hR595
     have S592:St w591 (fun _=>False) w591 [] [bx b546 (.cells #[I y538.2.1.1,I y538.2.1.2] 141),bx r532 (itO m clock (dz++[y538])),bx l63 o65,bx D64 (.deferred (some [])),bx b36 (.cells (ivs o).toArray 146),bx b30 (.cells (ivs (List.replicate 9 0)).toArray 146),bx b27 (.cells #[I start] 3),bx b24 (.cells #[I t,I r,Value.slice A n c,Value.map (some m)] 89),bx b44 (.cells #[I t,I r,Value.slice A n c,Value.map (some m)] 89),bx m (mapO ekP iE es clock),bx 3 (.cells #[I (-1),I (-1)] 141)]:=S550.asP k593
     obtain ⟨lo596,hi597,_,_,q598⟩:=hR595 3 80 rfl (Nat.le_of_ble_eq_true rfl) rfl
     replace q598:e590 80=I (o.getD y538.2.1.1.toNat 0):=q598
     obtain ⟨lo599,hi600,_,_,q601⟩:=hR595 4 81 rfl (Nat.le_of_ble_eq_true rfl) rfl
     replace q601:e590 81=I y538.2.2:=q601
     refine hopE [(80,I (o.getD y538.2.1.1.toNat 0)),(81,I y538.2.2)] ⟨q598,q601,trivial⟩ ?_
     refine o_add (rfl:_=I (o.getD y538.2.1.1.toNat 0)) (rfl:_=I y538.2.2) (rfl:_=IntKind.i64.wrap ((o.getD y538.2.1.1.toNat 0)+y538.2.2)) ?_
     refine wp_nil ?_
     exact ⟨_,rfl,S592.keep,rfl⟩
    ·intro e602 w603 k605 hf606 hR607
     have S604:St w603 (fun _=>False) w603 [] [bx b546 (.cells #[I y538.2.1.1,I y538.2.1.2] 141),bx r532 (itO m clock (dz++[y538])),bx l63 o65,bx D64 (.deferred (some [])),bx b36 (.cells (ivs o).toArray 146),bx b30 (.cells (ivs (List.replicate 9 0)).toArray 146),bx b27 (.cells #[I start] 3),bx b24 (.cells #[I t,I r,Value.slice A n c,Value.map (some m)] 89),bx b44 (.cells #[I t,I r,Value.slice A n c,Value.map (some m)] 89),bx m (mapO ekP iE es clock),bx 3 (.cells #[I (-1),I (-1)] 141)]:=S550.asP k605
     refine hopE [(11,P b546 0)] ⟨((hf606 11 rfl).trans (rfl:_=P b546 0)),trivial⟩ ?_
     refine o_fld (rfl:_=P b546 0) fl141_1 (rfl:_=1) ?_
     refine wp_nil ?_
     exact ⟨_,rfl,S604.keep,rfl⟩
    ·intro e608 w609 k611 hf612 hR613
     have S610:St w609 (fun _=>False) w609 [] [bx b546 (.cells #[I y538.2.1.1,I y538.2.1.2] 141),bx r532 (itO m clock (dz++[y538])),bx l63 o65,bx D64 (.deferred (some [])),bx b36 (.cells (ivs o).toArray 146),bx b30 (.cells (ivs (List.replicate 9 0)).toArray 146),bx b27 (.cells #[I start] 3),bx b24 (.cells #[I t,I r,Value.slice A n c,Value.map (some m)] 89),bx b44 (.cells #[I t,I r,Value.slice A n c,Value.map (some m)] 89),bx m (mapO ekP iE es clock),bx 3 (.cells #[I (-1),I (-1)] 141)]:=S550.asP k611
     obtain ⟨lo614,hi615,_,_,q616⟩:=hR613 6 83 rfl (Nat.le_of_ble_eq_true rfl) rfl
     replace q616:e608 83=P b546 1:=q616
     refine hopE [(83,P b546 1)] ⟨q616,trivial⟩ ?_
     refine o_ld1 (rfl:_=P b546 1) ty3 ((cell_of (S610.atP (i:=0) rfl) 1).trans (rfl:_=some (I y538.2.1.2))) ?_
     refine wp_nil ?_
     exact ⟨_,rfl,S610.keep,rfl⟩
    ·intro e617 w618 k620 hf621 hR622
     have S619:St w618 (fun _=>False) w618 [] [bx b546 (.cells #[I y538.2.1.1,I y538.2.1.2] 141),bx r532 (itO m clock (dz++[y538])),bx l63 o65,bx D64 (.deferred (some [])),bx b36 (.cells (ivs o).toArray 146),bx b30 (.cells (ivs (List.replicate 9 0)).toArray 146),bx b27 (.cells #[I start] 3),bx b24 (.cells #[I t,I r,Value.slice A n c,Value.map (some m)] 89),bx b44 (.cells #[I t,I r,Value.slice A n c,Value.map (some m)] 89),bx m (mapO ekP iE es clock),bx 3 (.cells #[I (-1),I (-1)] 141)]:=S550.asP k620
     obtain ⟨lo623,hi624,_,_,q625⟩:=hR622 7 84 rfl (Nat.le_of_ble_eq_true rfl) rfl
     replace q625:e617 84=I y538.2.1.2:=q625
     refine hopE [(6,P b36 0),(84,I y538.2.1.2)] ⟨((hf621 6 rfl).trans (rfl:_=P b36 0)),q625,trivial⟩ ?_
     refine o_ixA (rfl:_=P b36 0) (rfl:_=I y538.2.1.2) ar146 (by omega) (by omega) (by simp:_=y538.2.1.2.toNat) ?_
     refine wp_nil ?_
     exact ⟨_,rfl,S619.keep,rfl⟩
    ·intro e626 w627 k629 hf630 hR631
     have S628:St w627 (fun _=>False) w627 [] [bx b546 (.cells #[I y538.2.1.1,I y538.2.1.2] 141),bx r532 (itO m clock (dz++[y538])),bx l63 o65,bx D64 (.deferred (some [])),bx b36 (.cells (ivs o).toArray 146),bx b30 (.cells (ivs (List.replicate 9 0)).toArray 146),bx b27 (.cells #[I start] 3),bx b24 (.cells #[I t,I r,Value.slice A n c,Value.map (some m)] 89),bx b44 (.cells #[I t,I r,Value.slice A n c,Value.map (some m)] 89),bx m (mapO ekP iE es clock),bx 3 (.cells #[I (-1),I (-1)] 141)]:=S550.asP k629
     obtain ⟨lo632,hi633,_,_,q634⟩:=hR631 8 85 rfl (Nat.le_of_ble_eq_true rfl) rfl
     replace q634:e626 85=P b36 (y538.2.1.2.toNat):=q634
     refine hopE [(85,P b36 (y538.2.1.2.toNat))] ⟨q634,trivial⟩ ?_
     refine o_ld1 (rfl:_=P b36 (y538.2.1.2.toNat)) ty3 (ivs_cell (S628.atP (i:=4) rfl) (getD_in (by have:=(show (o:List Int).length=9 from ho); omega))) ?_
     refine wp_nil ?_
     exact ⟨_,rfl,S628.keep,rfl⟩
    intro e635 w636 lo637 hi638 k639 hf640 hR641 hd642
    have S643:=S550.call k639
    have q644:e635 77=P b546 0:=(hR641 0 77 (Nat.le_of_ble_eq_true rfl) rfl).2.2.2
    have q645:e635 78=I y538.2.1.1:=(hR641 1 78 (Nat.le_of_ble_eq_true rfl) rfl).2.2.2
    have q646:e635 79=P b36 (y538.2.1.1.toNat):=(hR641 2 79 (Nat.le_of_ble_eq_true rfl) rfl).2.2.2
    have q647:e635 80=I (o.getD y538.2.1.1.toNat 0):=(hR641 3 80 (Nat.le_of_ble_eq_true rfl) rfl).2.2.2
    have q648:e635 81=I y538.2.2:=(hR641 4 81 (Nat.le_of_ble_eq_true rfl) rfl).2.2.2
    have q649:e635 82=I (IntKind.i64.wrap ((o.getD y538.2.1.1.toNat 0)+y538.2.2)):=(hR641 5 82 (Nat.le_of_ble_eq_true rfl) rfl).2.2.2
    have q650:e635 83=P b546 1:=(hR641 6 83 (Nat.le_of_ble_eq_true rfl) rfl).2.2.2
    have q651:e635 84=I y538.2.1.2:=(hR641 7 84 (Nat.le_of_ble_eq_true rfl) rfl).2.2.2
    have q652:e635 85=P b36 (y538.2.1.2.toNat):=(hR641 8 85 (Nat.le_of_ble_eq_true rfl) rfl).2.2.2
    have q653:e635 86=I (o.getD y538.2.1.2.toNat 0):=(hR641 9 86 (Nat.le_of_ble_eq_true rfl) rfl).2.2.2
    refine tailE [(4,P b30 0),(6,P b36 0),(11,P b546 0),(12,I y538.2.2),(71,P r532 0),(72,Value.tuple #[B true,Value.agg #[I y538.2.1.1,I y538.2.1.2],I y538.2.2]),(73,B true),(74,Value.tuple #[Value.agg #[I y538.2.1.1,I y538.2.1.2],I y538.2.2]),(75,Value.agg #[I y538.2.1.1,I y538.2.1.2]),(76,I y538.2.2),(77,P b546 0),(78,I y538.2.1.1),(79,P b36 (y538.2.1.1.toNat)),(80,I (o.getD y538.2.1.1.toNat 0)),(81,I y538.2.2),(82,I (IntKind.i64.wrap ((o.getD y538.2.1.1.toNat 0)+y538.2.2))),(83,P b546 1),(84,I y538.2.1.2),(85,P b36 (y538.2.1.2.toNat)),(86,I (o.getD y538.2.1.2.toNat 0))] ⟨((hf640 4 rfl).trans (rfl:_=P b30 0)),((hf640 6 rfl).trans (rfl:_=P b36 0)),((hf640 11 rfl).trans (rfl:_=P b546 0)),((hf640 12 rfl).trans (rfl:_=I y538.2.2)),((hf640 71 rfl).trans (rfl:_=P r532 0)),((hf640 72 rfl).trans (rfl:_=Value.tuple #[B true,Value.agg #[I y538.2.1.1,I y538.2.1.2],I y538.2.2])),((hf640 73 rfl).trans (rfl:_=B true)),((hf640 74 rfl).trans (rfl:_=Value.tuple #[Value.agg #[I y538.2.1.1,I y538.2.1.2],I y538.2.2])),((hf640 75 rfl).trans (rfl:_=Value.agg #[I y538.2.1.1,I y538.2.1.2])),((hf640 76 rfl).trans (rfl:_=I y538.2.2)),q644,q645,q646,q647,q648,q649,q650,q651,q652,q653,trivial⟩ ?_
    intro g654
    replace S643:St w (fun _=>False) w636 [bx b546 (.cells #[I y538.2.1.1,I y538.2.1.2] 141),bx r532 (itO m clock (dz++[y538])),bx l63 o65,bx D64 (.deferred (some [])),bx b36 (.cells (ivs o).toArray 146),bx b30 (.cells (ivs (List.replicate 9 0)).toArray 146),bx b27 (.cells #[I start] 3),bx b24 (.cells #[I t,I r,Value.slice A n c,Value.map (some m)] 89)] [bx b44 (.cells #[I t,I r,Value.slice A n c,Value.map (some m)] 89),bx m (mapO ekP iE es clock),bx 3 (.cells #[I (-1),I (-1)] 141)]:=S643
    refine o_cmp (rfl:_=I (IntKind.i64.wrap ((o.getD y538.2.1.1.toNat 0)+y538.2.2))) (rfl:_=I (o.getD y538.2.1.2.toNat 0)) (rfl:_=some (decide ((IntKind.i64.wrap ((o.getD y538.2.1.1.toNat 0)+y538.2.2)) < (o.getD y538.2.1.2.toNat 0)))) ?_
    refine wp_nil ?_
    refine c_cond (rfl:_=B (decide ((IntKind.i64.wrap ((o.getD y538.2.1.1.toNat 0)+y538.2.2)) < (o.getD y538.2.1.2.toNat 0)))) (fun c655=>?_) (fun c655=>?_)
    ·have c655p:=of_decide_eq_true c655
     refine c_seq ?_
     refine reg ?_
     refine o_call (g:=_) (first:=#[]) (caps:=#[]) (args:=[]) rfl rfl fu76 rfl (none_ok _) ?_
     rintro _ w656 ⟨rfl,k658⟩
     have S657:=S643.call k658
     refine o_sto (vs:=ivs zeros) (rfl:_=P b30 0) (rfl:_=Value.agg (ivs zeros).toArray) rfl sz146 ((ivs_len _).trans (show (zeros:List Int).length=9 from rfl)) ivs_one S657 (i:=5) rfl (by have h1_:=(show (List.replicate 9 0:List Int).length=9 from List.length_replicate ..); have h2_:=(show (zeros:List Int).length=9 from rfl); simp only [ivs_len,List.size_toArray]; omega) (ivs_put (Eq.trans (show (List.replicate 9 0:List Int).length=9 from List.length_replicate ..) (Eq.symm (show (zeros:List Int).length=9 from rfl)))) fun w659 S660=>?_
     replace S660:St w (fun _=>False) w659 [bx b546 (.cells #[I y538.2.1.1,I y538.2.1.2] 141),bx r532 (itO m clock (dz++[y538])),bx l63 o65,bx D64 (.deferred (some [])),bx b36 (.cells (ivs o).toArray 146),bx b30 (.cells (ivs zeros).toArray 146),bx b27 (.cells #[I start] 3),bx b24 (.cells #[I t,I r,Value.slice A n c,Value.map (some m)] 89)] [bx b44 (.cells #[I t,I r,Value.slice A n c,Value.map (some m)] 89),bx m (mapO ekP iE es clock),bx 3 (.cells #[I (-1),I (-1)] 141)]:=S660
     refine o_asg (rfl:_=B false) ?_
     refine wp_nil ?_
     refine c_ret (leave_mark S660 (i:=3) rfl fun w661 S662=>?_)
     replace S662:St w (fun _=>False) w661 [bx b546 (.cells #[I y538.2.1.1,I y538.2.1.2] 141),bx r532 (itO m clock (dz++[y538])),bx l63 o65,bx D64 (.deferred none),bx b36 (.cells (ivs o).toArray 146),bx b30 (.cells (ivs zeros).toArray 146),bx b27 (.cells #[I start] 3),bx b24 (.cells #[I t,I r,Value.slice A n c,Value.map (some m)] 89)] [bx b44 (.cells #[I t,I r,Value.slice A n c,Value.map (some m)] 89),bx m (mapO ekP iE es clock),bx 3 (.cells #[I (-1),I (-1)] 141)]:=S662
     show bodyPostM (Fr none) 0 Tryd.prog Tryd.f73 _ .ret _ _
     refine (ret_of (res2 rfl (rvN (cs:=ivs zeros) (rfl:_=P b30 0) ty146 sz146 ((ivs_len _).trans (show (zeros:List Int).length=9 from rfl)) (ivs_cells (S662.at (i:=5) rfl))) (rvT (rfl:_=B false))) ?_)
     exact ⟨_,rfl,_,_,rfl,S662.keep,.inr ⟨_,hF,.inl ⟨List.any_eq_true.2 ⟨y538.2,List.mem_map_of_mem hy539,c655⟩,rfl,rfl⟩⟩⟩
    ·have c655p:=of_decide_eq_false c655
     refine c_skip ?_
     have S663:=S643.pick [1,2,3,4,5,6,7] (by decide) rfl (k:=0) rfl
     exact ⟨dz++[y538],_,rfl,⟨rfl,rfl,rfl,trivial⟩,⟨dn_mem hz1 hy539,dn_snoc (es:=es) hz2 hn540,(by rw [ents_any,hzv,Bool.false_or]; simpa [viol] using c655p),S663⟩,dn_lt hz1 hz2 hy539 hn540⟩
   ·refine o_ext (rfl:_=Value.tuple #[B false]) (rfl:_=some (B false)) ?_
    refine wp_nil ?_
    refine c_seq ?_
    refine c_false (rfl:_=B false) ?_
    refine c_exit ?_
    refine c_seq ?_
    refine reg ?_
    refine o_ldN (cs:=ivs o) (rfl:_=P b36 0) ty146 sz146 ((ivs_len _).trans (show (o:List Int).length=9 from ho)) (ivs_cells (S544.at (i:=3) rfl)) ?_
    refine o_sto (vs:=ivs o) (rfl:_=P b30 0) (rfl:_=Value.agg (ivs o).toArray) rfl sz146 ((ivs_len _).trans (show (o:List Int).length=9 from ho)) ivs_one S544 (i:=4) rfl (by have h1_:=(show (List.replicate 9 0:List Int).length=9 from List.length_replicate ..); have h2_:=(show (o:List Int).length=9 from ho); simp only [ivs_len,List.size_toArray]; omega) (ivs_put (Eq.trans (show (List.replicate 9 0:List Int).length=9 from List.length_replicate ..) (Eq.symm (show (o:List Int).length=9 from ho)))) fun w664 S665=>?_
    replace S665:St w (fun _=>False) w664 [bx r532 (itO m clock dz),bx l63 o65,bx D64 (.deferred (some [])),bx b36 (.cells (ivs o).toArray 146),bx b30 (.cells (ivs o).toArray 146),bx b27 (.cells #[I start] 3),bx b24 (.cells #[I t,I r,Value.slice A n c,Value.map (some m)] 89)] [bx b44 (.cells #[I t,I r,Value.slice A n c,Value.map (some m)] 89),bx m (mapO ekP iE es clock),bx 3 (.cells #[I (-1),I (-1)] 141)]:=S665
    refine o_asg (rfl:_=B true) ?_
    refine wp_nil ?_
    refine c_ret (leave_mark S665 (i:=2) rfl fun w666 S667=>?_)
    replace S667:St w (fun _=>False) w666 [bx r532 (itO m clock dz),bx l63 o65,bx D64 (.deferred none),bx b36 (.cells (ivs o).toArray 146),bx b30 (.cells (ivs o).toArray 146),bx b27 (.cells #[I start] 3),bx b24 (.cells #[I t,I r,Value.slice A n c,Value.map (some m)] 89)] [bx b44 (.cells #[I t,I r,Value.slice A n c,Value.map (some m)] 89),bx m (mapO ekP iE es clock),bx 3 (.cells #[I (-1),I (-1)] 141)]:=S667
    show bodyPostM (Fr none) 0 Tryd.prog Tryd.f73 _ .ret _ _
    refine (ret_of (res2 rfl (rvN (cs:=ivs o) (rfl:_=P b30 0) ty146 sz146 ((ivs_len _).trans (show (o:List Int).length=9 from ho)) (ivs_cells (S667.at (i:=4) rfl))) (rvT (rfl:_=B true))) ?_)
    exact ⟨_,rfl,_,_,rfl,S667.keep,.inr ⟨_,hF,.inr ⟨(List.Perm.any_eq (done_perm hst hz1 hz2 ha545)).symm.trans hzv,rfl,rfl⟩⟩⟩
end Go.Proofs.YtblfippmobpaaaaDoor.Fr