/- Part of a logic of my own for walks: rules by which a proof steps through code, proved once. -/
import Derived.Test.YtblfippmobpaaaaDoorZGFxCopy
import Derived.Test.YtblfippmobpaaaaDoorProg
import Derived.KernelRfl
set_option linter.unusedSimpArgs false
set_option linter.unusedVariables false
namespace Go.Fx
open Go
section
variable {ro:Option Nat}{P:Program}{n:Nat}{d:List Deferred}{w:World}{Q:Exit→Act→World→Prop}{CC:Nat→Prop}{Base:List Asr}
theorem St.permX {w0 w:World}{C:Nat→Prop}{X X' L:List Asr} (S:St w0 C w X L) (h:X.Perm X'):St w0 C w X' L:=
 ⟨S.keep,fun x hx=>S.xs x (h.mem_iff.2 hx),S.ps,(h.pairwise_iff (fun {p q} hpq b h1 h2=>hpq b h2 h1)).1 S.dx,fun x hx=>S.dp x (h.mem_iff.2 hx),fun x hx=>S.own x (h.mem_iff.2 hx)⟩
def Ch (ro:Option Nat) (P:Program) (full:Array Oper) (n:Nat) (d:List Deferred) (w:World) (CC:Nat→Prop) (Base:List Asr) (Fin:Env→List Asr→Prop):List Oper→Env→List Asr→Prop
 | [],ec,X=>Fin ec X
 | o::os,ec,X=>∀ w' R,St w CC w' (X++R) Base→wpA ro P full (Ends1 fun a w2=>∃ v X',a=E n (updo ec o.dst v) d∧St w CC w2 (X' ++R) Base∧Ch ro P full n d w CC Base Fin os (updo ec o.dst v) X') [o] (E n ec d) w'
def okT (l:List Oper) (m:Nat) (ca cb:List Nat):Bool:=
 okDraw l m none&&((List.range m).all fun i=>match l[i]? with
  | none=>true
  | some o=>plainOp o&&(reads l.toArray o).all fun s=>(List.range m).all fun j=>dstAt l j != some s||(((anc l).getD i []).contains j&&(ca.contains i||!ca.contains j)&&(cb.contains i||!cb.contains j)))&&
 ((List.range m).all fun i=>(!ca.contains i||(List.range i).all fun j=>!ca.contains j||((anc l).getD i []).contains j)&&(!cb.contains i||(List.range i).all fun j=>!cb.contains j||((anc l).getD i []).contains j)&&!(ca.contains i&&cb.contains i))
theorem okT_spec {l:List Oper}{m:Nat}{ca cb:List Nat} (h:okT l m ca cb=true):okDraw l m none=true∧(∀ i o,i < m→l[i]? =some o→plainOp o=true∧∀ s∈reads l.toArray o,∀ j,j < m→dstAt l j=some s→((anc l).getD i []).contains j=true∧(ca.contains i=false→ca.contains j=false)∧(cb.contains i=false→cb.contains j=false))∧
 (∀ i,i < m→ca.contains i=true→∀ j,j < i→ca.contains j=true→((anc l).getD i []).contains j=true)∧(∀ i,i < m→cb.contains i=true→∀ j,j < i→cb.contains j=true→((anc l).getD i []).contains j=true)∧(∀ i,i < m→ca.contains i=true→cb.contains i=false):=by
 simp only [okT,Bool.and_eq_true] at h
 obtain ⟨⟨h1,h2⟩,h3⟩:=h
 have g:∀ i,i < m→_:=fun i hi=>List.all_eq_true.1 h3 i (List.mem_range.2 hi)
 refine ⟨h1,fun i o hi ho=>?_,fun i hi hci j hji hcj=>?_,fun i hi hci j hji hcj=>?_,fun i hi hci=>?_⟩
 ·have:=List.all_eq_true.1 h2 i (List.mem_range.2 hi)
  rw [ho] at this
  simp only [Bool.and_eq_true] at this
  refine ⟨this.1,fun s hs j hj hd=>?_⟩
  have:=List.all_eq_true.1 (List.all_eq_true.1 this.2 s hs) j (List.mem_range.2 hj)
  rw [hd] at this
  simp only [bne_self_eq_false,Bool.false_or,Bool.and_eq_true,Bool.or_eq_true,Bool.not_eq_true'] at this
  exact ⟨this.1.1,fun hc=>this.1.2.resolve_left (by rw [hc]; simp),fun hc=>this.2.resolve_left (by rw [hc]; simp)⟩
 ·have:=g i hi
  simp only [Bool.and_eq_true] at this
  have:=this.1.1
  rw [hci] at this
  simp only [Bool.not_true,Bool.false_or] at this
  have:=List.all_eq_true.1 this j (List.mem_range.2 hji)
  rw [hcj] at this
  simpa using this
 ·have:=g i hi
  simp only [Bool.and_eq_true] at this
  have:=this.1.2
  rw [hci] at this
  simp only [Bool.not_true,Bool.false_or] at this
  have:=List.all_eq_true.1 this j (List.mem_range.2 hji)
  rw [hcj] at this
  simpa using this
 ·have:=g i hi
  simp only [Bool.and_eq_true] at this
  have:=this.2
  rw [hci] at this
  simpa using this
def dIn (l:List Oper) (cs:List Nat) (s:Nat):Bool:=cs.any fun j=>dstAt l j==some s
theorem dIn_of {l:List Oper}{cs:List Nat}{s j:Nat} (hj:cs.contains j=true) (h:dstAt l j=some s):dIn l cs s=true:=List.any_eq_true.2 ⟨j,by simpa using hj,by simp [h]⟩
theorem dIn_not {l:List Oper}{cs:List Nat}{s j:Nat} (h:dIn l cs s=false) (hj:cs.contains j=true):dstAt l j≠some s:=fun hd=>by rw [dIn_of hj hd] at h; cases h
theorem reg_two {e:Env}{l:List Oper}{id:Nat} (hm:P.follows .mixedOrders=true) (m:Nat) (ca cb:List Nat) (XA0 XB0:List Asr) (FA FB:Env→List Asr→Prop) (hok:okT l m ca cb=true) (hca:ca=(List.range m).filter (ca.contains ·)) (hcb:cb=(List.range m).filter (cb.contains ·)) (S0:St w CC w (XA0++XB0) Base)
 (h:DSd ro P l.toArray n d CC w (ca++cb) 0 (l.take m) e fun ek=>Ch ro P l.toArray n d w CC Base FA (ca.filterMap (l[·]?)) ek XA0∧Ch ro P l.toArray n d w CC Base FB (cb.filterMap (l[·]?)) ek XB0∧
  ∀ ea XA eb XB,FA ea XA→FB eb XB→∀ e' w',(∀ s,dIn l ca s=true→e' s=ea s)→(∀ s,dIn l cb s=true→e' s=eb s)→(∀ s,dIn l ca s=false→dIn l cb s=false→e' s=ek s)→St w CC w' (XA++XB) Base→wpA ro P l.toArray Q (l.drop m) (E n e' d) w'):
 (Code.region id l.toArray true).wpIn (Fr ro) 0 P Q (E n e d) w:=by
 obtain ⟨vs,hl,hh,hKA,hKB,hT⟩:=dsd_vals h
 obtain ⟨hd,hq,hccA,hccB,hAB⟩:=okT_spec hok
 obtain ⟨_,_,hml,hdst,_,_⟩:=okDraw_spec hd
 have hlm:(l.take m).length=m:=by simp; omega
 have hlv:vs.length=m:=by omega
 generalize hcs:ca++cb=cs at hh hKA hKB hT
 have hcc:∀ j,cs.contains j=(ca.contains j||cb.contains j):=fun j=>by rw [← hcs]; simp [List.contains_eq_any_beq]
 generalize hek:seqE e ((msk cs 0 (l.take m)).zip vs)=ek at hKA hKB hT
 have hr0:∀ cs:List Nat,cs=(List.range m).filter (cs.contains ·)→cs.filterMap (l[·]?)=rem l m cs (fun _=>false):=fun cs hcs=>by
  unfold rem
  conv=>lhs; rw [hcs]
  congr 2
  funext i
  simp
 rw [hr0 ca hca] at hKA
 rw [hr0 cb hcb] at hKB
 have hps:∀ k i p,(((msk cs 0 (l.take m)).zip vs).take k)[i]? =some p→i < k∧i < m∧vs[i]? =some p.2∧∃ o,l[i]? =some o∧p.1=(bif cs.contains i then { o with dst:=none } else o):=by
  intro k i p hp
  rw [List.getElem?_take] at hp
  split at hp
  ·rename_i hik
   rw [List.getElem?_zip_eq_some,msk_get,List.getElem?_take] at hp
   obtain ⟨h1,h2⟩:=hp
   split at h1
   ·rename_i him
    obtain ⟨o,ho,h1⟩:=Option.map_eq_some_iff.1 h1
    rw [Nat.zero_add] at h1
    exact ⟨hik,him,h2,o,ho,h1.symm⟩
   ·simp at h1
  ·cases hp
 have F1:∀ k j s v,j < k→j < m→cs.contains j=false→dstAt l j=some s→vs[j]? =some v→seqE e (((msk cs 0 (l.take m)).zip vs).take k) s=v:=by
  intro k j s v hjk hjm hjc hds hv
  have hoj:∃ o,l[j]? =some o:=⟨l[j]'(by omega),List.getElem?_eq_getElem _⟩
  obtain ⟨o,ho⟩:=hoj
  refine seqE_at (j:=j) (o:=o) (v:=v) _ e ?_ (by simpa [dstAt,ho] using hds) fun i p hp hpd=>?_
  ·rw [List.getElem?_take,if_pos hjk,List.getElem?_zip_eq_some,msk_get,List.getElem?_take,if_pos hjm,ho,Nat.zero_add,hjc]
   exact ⟨rfl,hv⟩
  ·obtain ⟨a1,a2,a3,o',ho',hp1⟩:=hps k i p hp
   cases hci:cs.contains i with
   | true=>rw [hci] at hp1; rw [hp1] at hpd; cases hpd
   | false=>
     rw [hci] at hp1
     rw [hp1] at hpd
     exact hdst i j s a2 hjm (by simp [dstAt,ho']; exact hpd) hds
 have F2:∀ k s,(∀ j,j < m→cs.contains j=false→dstAt l j≠some s)→seqE e (((msk cs 0 (l.take m)).zip vs).take k) s=e s:=by
  intro k s hs
  refine seqE_not _ e fun p hp hpd=>?_
  obtain ⟨i,hi,rfl⟩:=List.getElem_of_mem hp
  obtain ⟨a1,a2,a3,o',ho',hp1⟩:=hps k i _ (List.getElem?_eq_getElem hi)
  cases hci:cs.contains i with
  | true=>rw [hci] at hp1; rw [hp1] at hpd; cases hpd
  | false=>
    rw [hci] at hp1
    rw [hp1] at hpd
    exact hs i a2 hci (by simp [dstAt,ho']; exact hpd)
 have hall:((msk cs 0 (l.take m)).zip vs).take m=(msk cs 0 (l.take m)).zip vs:=List.take_of_length_le (by simp [msk_len]; omega)
 have F1m:∀ j s v,j < m→cs.contains j=false→dstAt l j=some s→vs[j]? =some v→ek s=v:=fun j s v h1 h2 h3 h4=>by
  rw [← hek,← hall]; exact F1 m j s v h1 h1 h2 h3 h4
 have F2m:∀ s,(∀ j,j < m→cs.contains j=false→dstAt l j≠some s)→ek s=e s:=fun s hs=>by
  rw [← hek,← hall]; exact F2 m s hs
 have hvj:∀ j,j < m→∃ v,vs[j]? =some v:=fun j hj=>⟨vs[j]'(by omega),List.getElem?_eq_getElem _⟩
 have cm:∀ {j},ca.contains j=true→cs.contains j=true:=fun {j} h=>by rw [hcc,h]; rfl
 have cm' :∀ {j},cb.contains j=true→cs.contains j=true:=fun {j} h=>by rw [hcc,h]; simp
 have cf:∀ {j},ca.contains j=false→cb.contains j=false→cs.contains j=false:=fun {j} h h' =>by rw [hcc,h,h']; rfl
 have cf1:∀ {j},cs.contains j=false→ca.contains j=false:=fun {j} h=>by rw [hcc] at h; exact (Bool.or_eq_false_iff.1 h).1
 have cf2:∀ {j},cs.contains j=false→cb.contains j=false:=fun {j} h=>by rw [hcc] at h; exact (Bool.or_eq_false_iff.1 h).2
 let At:List Nat→(Nat→Bool)→Env→Env→Prop:=fun c S e' ea=>(∀ j s,j < m→S j=true→c.contains j=true→dstAt l j=some s→e' s=ea s)∧(∀ s,(∀ j,j < m→S j=true→c.contains j=true→dstAt l j≠some s)→ea s=ek s)
 have AtStay:∀ (c:List Nat) (S:Nat→Bool) (e' ea:Env) (i:Nat) (o:Oper) (v:Value),i < m→l[i]? =some o→c.contains i=false→At c S e' ea→At c (fun j=>S j||j==i) (updo e' o.dst v) ea:=by
  intro c S e' ea i o v him ho hci ⟨qA,qB⟩
  have hup:∀ (f:Env) v s,o.dst≠some s→updo f o.dst v s=f s:=fun f v s hne' =>by
   cases hod:o.dst with
   | none=>rfl
   | some t=>
     have:s≠t:=fun h=>hne' (by rw [hod,h])
     simp [updo,upd,nbeq this]
  refine ⟨fun j s hj hSj hcj hds=>?_,fun s hs=>qB s fun j hj hSj=>hs j hj (by simp [hSj])⟩
  have hji:j≠i:=fun h=>by rw [h,hci] at hcj; cases hcj
  rw [hup _ _ s (fun hod=>hji (hdst j i s hj him hds (by simp [dstAt,ho,hod])))]
  exact qA j s hj (by simpa [hji] using hSj) hcj hds
 have AtStep:∀ (c:List Nat) (S:Nat→Bool) (e' ea:Env) (i:Nat) (o:Oper) (v:Value),i < m→l[i]? =some o→c.contains i=true→At c S e' ea→At c (fun j=>S j||j==i) (updo e' o.dst v) (updo ea o.dst v):=by
  intro c S e' ea i o v him ho hci ⟨qA,qB⟩
  have hup:∀ (f:Env) v s,o.dst≠some s→updo f o.dst v s=f s:=fun f v s hne' =>by
   cases hod:o.dst with
   | none=>rfl
   | some t=>
     have:s≠t:=fun h=>hne' (by rw [hod,h])
     simp [updo,upd,nbeq this]
  refine ⟨fun j s hj hSj hcj hds=>?_,fun s hs=>?_⟩
  ·by_cases hji:j=i
   ·subst hji
    have hod:o.dst=some s:=by simpa [dstAt,ho] using hds
    rw [hod]; simp [updo,upd]
   ·have hne:o.dst≠some s:=fun hod=>hji (hdst j i s hj him hds (by simp [dstAt,ho,hod]))
    rw [hup _ _ s hne,hup _ _ s hne]
    exact qA j s hj (by simpa [hji] using hSj) hcj hds
  ·rw [hup _ _ s (fun hod=>hs i him (by simp) hci (by simp [dstAt,ho,hod]))]
   exact qB s fun j hj hSj=>hs j hj (by simp [hSj])
 have Rd:∀ (c:List Nat) (S:Nat→Bool) (i:Nat) (o:Oper) (e' ea:Env),(∀ s,(∀ j,j < m→dstAt l j≠some s)→e' s=e s)→(∀ j s v,j < m→S j=true→cs.contains j=false→dstAt l j=some s→vs[j]? =some v→e' s=v)→At c S e' ea→(∀ j,c.contains j=true→cs.contains j=true)→
  (∀ s∈reads l.toArray o,∀ j,j < m→dstAt l j=some s→S j=true∧(c.contains j=true∨cs.contains j=false))→∀ s∈reads l.toArray o,e' s=ea s:=by
  intro c S i o e' ea hfr hqv ⟨qA,qB⟩ hcm hr s hs
  by_cases hx:∃ j,j < m∧dstAt l j=some s
  ·obtain ⟨j,hj,hds⟩:=hx
   obtain ⟨hS,hc⟩:=hr s hs j hj hds
   rcases hc with hc | hc
   ·exact qA j s hj hS hc hds
   ·obtain ⟨u,hu⟩:=hvj j hj
    rw [hqv j s u hj hS hc hds hu,qB s fun c' hc' hSc hcc3 hds2=>?_,F1m j s u hj hc hds hu]
    have:=hdst c' j s hc' hj hds2 hds
    rw [this] at hcc3
    rw [hcm j hcc3] at hc; cases hc
  ·have hx' :∀ j,j < m→dstAt l j≠some s:=fun j hj hds=>hx ⟨j,hj,hds⟩
   rw [hfr s hx',qB s fun c' hc' _ _=>hx' c' hc',F2m s fun j hj _=>hx' j hj]
 refine reg_inv hm m hd (fun S e' w' =>(∀ s,(∀ j,j < m→dstAt l j≠some s)→e' s=e s)∧(∀ j s v,j < m→S j=true→cs.contains j=false→dstAt l j=some s→vs[j]? =some v→e' s=v)∧
  ∃ (ea eb:Env) (XA XB:List Asr),At ca S e' ea∧At cb S e' eb∧Ch ro P l.toArray n d w CC Base FA (rem l m ca S) ea XA∧Ch ro P l.toArray n d w CC Base FB (rem l m cb S) eb XB∧St w CC w' (XA++XB) Base) ?_ ?_ ?_
 ·intro w1 k1
  exact ⟨fun _ _=>rfl,fun _ _ _ _ h=>by (cases h),ek,ek,XA0,XB0,⟨fun _ _ _ h=>by (cases h),fun _ _=>rfl⟩,⟨fun _ _ _ h=>by (cases h),fun _ _=>rfl⟩,hKA,hKB,S0.call k1⟩
 ·rintro S i o e' w' ho him hSi hwait hlt hclosed ⟨hfr,hqv,ea,eb,XA,XB,hA,hB,qA,qB,hS⟩
  obtain ⟨hpl,hrd⟩:=hq i o him ho
  have hne:∀ j s,j < m→j≠i→dstAt l j=some s→o.dst≠some s:=fun j s hj hji hds hod=>hji (hdst j i s hj him hds (by simp [dstAt,ho,hod]))
  have hup:∀ (f:Env) v s,o.dst≠some s→updo f o.dst v s=f s:=fun f v s hne' =>by
   cases hod:o.dst with
   | none=>rfl
   | some t=>
     have:s≠t:=fun h=>hne' (by rw [hod,h])
     simp [updo,upd,nbeq this]
  have frS:∀ v s,(∀ j,j < m→dstAt l j≠some s)→updo e' o.dst v s=e s:=fun v s hs=>by
   rw [hup _ _ s (fun hod=>hs i him (by simp [dstAt,ho,hod]))]; exact hfr s hs
  have qvS:∀ v,(cs.contains i=false→∀ x,vs[i]? =some x→v=x)→∀ j s x,j < m→(S j||j==i)=true→cs.contains j=false→dstAt l j=some s→vs[j]? =some x→updo e' o.dst v s=x:=fun v hv j s x hj hSj hcj hds hx=>by
   by_cases hji:j=i
   ·subst hji
    have hod:o.dst=some s:=by simpa [dstAt,ho] using hds
    have:=hv hcj x hx
    subst this
    rw [hod]; simp [updo,upd]
   ·rw [hup _ _ s (hne j s hj hji hds)]
    exact hqv j s x hj (by simpa [hji] using hSj) hcj hds hx
  cases hci:cs.contains i with
  | false=>
    obtain ⟨v,hv⟩:=hvj i him
    have q1:=wp1_congr (e' :=e') (R:=rv v) (fun _ _ _ _ _ _ h=>h) hpl (fun s hs=>?_) (hh i o v (by rw [List.getElem?_take,if_pos him]; exact ho) hv (by rw [Nat.zero_add]; exact hci) w' hS.keep)
    ·refine wp1_mono (fun ex a w2 hq2=>?_) q1
     cases ex with
     | normal=>
       obtain ⟨u,rfl,hk2,hu⟩:=hq2
       have hu:u=v:=hu
       subst hu
       refine ⟨_,rfl,frS u,qvS u (fun _ x hx=>by rw [hv] at hx; exact Option.some.inj hx),ea,eb,XA,XB,AtStay ca S e' ea i o u him ho (cf1 hci) hA,AtStay cb S e' eb i o u him ho (cf2 hci) hB,?_,?_,hS.call hk2⟩
       ·rw [rem_same (cf1 hci)]; exact qA
       ·rw [rem_same (cf2 hci)]; exact qB
     | _=>exact hq2.elim
    ·by_cases hx:∃ j,j < m∧dstAt l j=some s
     ·obtain ⟨j,hj,hds⟩:=hx
      obtain ⟨ha,hc1,hc2⟩:=hrd s hs j hj hds
      have hcj:=cf (hc1 (cf1 hci)) (hc2 (cf2 hci))
      obtain ⟨u,hu⟩:=hvj j hj
      have hil:i < l.length:=(List.getElem?_eq_some_iff.1 ho).1
      rw [hqv j s u hj (hwait j ha) hcj hds hu,F1 i j s u (anc_lt hd hil ha) hj hcj hds hu]
     ·have hx' :∀ j,j < m→dstAt l j≠some s:=fun j hj hds=>hx ⟨j,hj,hds⟩
      rw [hfr s hx',F2 i s fun j hj _=>hx' j hj]
  | true=>
    cases hia:ca.contains i with
    | true=>
      have hib:=hAB i him hia
      rw [rem_cons him ho hia hSi (fun j hj hcj=>hwait j (hccA i him hia j hj hcj))] at qA
      have q1:=wp1_congrV (e' :=e') (Ψ:=fun v w2=>∃ X',St w CC w2 (X' ++XB) Base∧Ch ro P l.toArray n d w CC Base FA (rem l m ca fun j=>S j||j==i) (updo ea o.dst v) X') hpl (Rd ca S i o e' ea hfr hqv hA (fun _ h=>cm h) fun s hs j hj hds=>?_) (wp1_mono (fun ex a w2 hq2=>?_) (qA w' XB hS))
      ·refine wp1_mono (fun ex a w2 hq2=>?_) q1
       cases ex with
       | normal=>
         obtain ⟨v,rfl,X',hS2,hC⟩:=hq2
         refine ⟨_,rfl,frS v,qvS v (fun h=>by rw [hci] at h; cases h),updo ea o.dst v,eb,X',XB,AtStep ca S e' ea i o v him ho hia hA,AtStay cb S e' eb i o v him ho hib hB,hC,?_,hS2⟩
         rw [rem_same hib]; exact qB
       | _=>exact hq2.elim
      ·obtain ⟨ha,_,hc2⟩:=hrd s hs j hj hds
       refine ⟨hwait j ha,?_⟩
       cases hcj:ca.contains j with
       | true=>exact .inl rfl
       | false=>exact .inr (cf hcj (hc2 hib))
      ·cases ex with
       | normal=>obtain ⟨v,X',hu,h1,h2⟩:=hq2; exact ⟨v,hu,X',h1,h2⟩
       | _=>exact hq2.elim
    | false=>
      have hib:cb.contains i=true:=by rw [hcc,hia] at hci; simpa using hci
      rw [rem_cons him ho hib hSi (fun j hj hcj=>hwait j (hccB i him hib j hj hcj))] at qB
      have q1:=wp1_congrV (e' :=e') (Ψ:=fun v w2=>∃ X',St w CC w2 (X' ++XA) Base∧Ch ro P l.toArray n d w CC Base FB (rem l m cb fun j=>S j||j==i) (updo eb o.dst v) X') hpl (Rd cb S i o e' eb hfr hqv hB (fun _ h=>cm' h) fun s hs j hj hds=>?_) (wp1_mono (fun ex a w2 hq2=>?_) (qB w' XA (hS.permX List.perm_append_comm)))
      ·refine wp1_mono (fun ex a w2 hq2=>?_) q1
       cases ex with
       | normal=>
         obtain ⟨v,rfl,X',hS2,hC⟩:=hq2
         refine ⟨_,rfl,frS v,qvS v (fun h=>by rw [hci] at h; cases h),ea,updo eb o.dst v,XA,X',AtStay ca S e' ea i o v him ho hia hA,AtStep cb S e' eb i o v him ho hib hB,?_,hC,hS2.permX List.perm_append_comm⟩
         rw [rem_same hia]; exact qA
       | _=>exact hq2.elim
      ·obtain ⟨ha,hc1,_⟩:=hrd s hs j hj hds
       refine ⟨hwait j ha,?_⟩
       cases hcj:cb.contains j with
       | true=>exact .inl rfl
       | false=>exact .inr (cf (hc1 hia) hcj)
      ·cases ex with
       | normal=>obtain ⟨v,X',hu,h1,h2⟩:=hq2; exact ⟨v,hu,X',h1,h2⟩
       | _=>exact hq2.elim
 ·rintro S e' w' hall2 ⟨hfr,hqv,ea,eb,XA,XB,hA,hB,qA,qB,hS⟩
  have hr:∀ c,rem l m c S=[]:=fun c=>by
   unfold rem
   rw [List.filter_eq_nil_iff.2]
   ·rfl
   ·intro j hj
    simp [hall2 j (List.mem_range.1 hj)]
  rw [hr] at qA qB
  have hin:∀ c:List Nat,c=(List.range m).filter (c.contains ·)→∀ s,dIn l c s=true→∃ j,j < m∧c.contains j=true∧dstAt l j=some s:=fun c hc s hs=>by
   obtain ⟨j,hj,hd2⟩:=List.any_eq_true.1 hs
   rw [hc] at hj
   obtain ⟨h1,h2⟩:=List.mem_filter.1 hj
   exact ⟨j,List.mem_range.1 h1,h2,by simpa using hd2⟩
  refine hT ea XA eb XB qA qB e' w' (fun s hs=>?_) (fun s hs=>?_) (fun s h1 h2=>?_) hS
  ·obtain ⟨j,hj,hc,hds⟩:=hin ca hca s hs
   exact hA.1 j s hj (hall2 j hj) hc hds
  ·obtain ⟨j,hj,hc,hds⟩:=hin cb hcb s hs
   exact hB.1 j s hj (hall2 j hj) hc hds
  ·by_cases hx:∃ j,j < m∧dstAt l j=some s
   ·obtain ⟨j,hj,hds⟩:=hx
    obtain ⟨u,hu⟩:=hvj j hj
    have hcj:cs.contains j=false:=by
     refine cf ?_ ?_
     ·cases hc:ca.contains j with
      | false=>rfl
      | true=>exact absurd hds (dIn_not h1 hc)
     ·cases hc:cb.contains j with
      | false=>rfl
      | true=>exact absurd hds (dIn_not h2 hc)
    rw [hqv j s u hj (hall2 j hj) hcj hds hu,F1m j s u hj hcj hds hu]
   ·have hx' :∀ j,j < m→dstAt l j≠some s:=fun j hj hds=>hx ⟨j,hj,hds⟩
    rw [hfr s hx',F2m s fun j hj _=>hx' j hj]
theorem cH {full:Array Oper}{Fin:Env→List Asr→Prop}{os:List Oper}{e:Env}{w2:World}{i:Nat}{v:Value}{X R:List Asr} (hS:St w CC w2 (X++R) Base) (h:Ch ro P full n d w CC Base Fin os (upd e i v) X):
 wpA ro P full (Ends1 fun a w2=>∃ v X',a=E n (updo e (some i) v) d∧St w CC w2 (X' ++R) Base∧Ch ro P full n d w CC Base Fin os (updo e (some i) v) X') [] (E n (upd e i v) d) w2:=wp_nil ⟨v,X,rfl,hS,h⟩
theorem cH0 {full:Array Oper}{Fin:Env→List Asr→Prop}{os:List Oper}{e:Env}{w2:World}{X R:List Asr} (hS:St w CC w2 (X++R) Base) (h:Ch ro P full n d w CC Base Fin os e X):
 wpA ro P full (Ends1 fun a w2=>∃ v X',a=E n (updo e none v) d∧St w CC w2 (X' ++R) Base∧Ch ro P full n d w CC Base Fin os (updo e none v) X') [] (E n e d) w2:=wp_nil ⟨undef,X,rfl,hS,h⟩
theorem chEnd {full:Array Oper}{Fin:Env→List Asr→Prop}{e:Env}{X:List Asr} (h:Fin e X):Ch ro P full n d w CC Base Fin [] e X:=h
theorem St.stR {w0 w w' :World}{C0:Nat→Prop}{X1 X2 L:List Asr} (S:St w0 C0 w (X1++X2) L) {i:Nat}{p:Asr} (hi:X2[i]? =some p) (k:Keep (fun b=>∃ x∈X1,x.fp b) w w'):p.ok w' :=by
 have hp:=List.mem_of_getElem? hi
 have ho:=S.xs p (List.mem_append_right _ hp)
 exact p.mono _ _ ho fun b hb=>k.block b (p.inb _ _ ho hb) fun ⟨x,hx,hxb⟩=>(List.pairwise_append.1 S.dx).2.2 x hx p hp b hxb hb
theorem St.stL {w0 w w' :World}{C0:Nat→Prop}{X1 X2 L:List Asr} (S:St w0 C0 w (X1++X2) L) {i:Nat}{p:Asr} (hi:L[i]? =some p) (k:Keep (fun b=>∃ x∈X1,x.fp b) w w'):p.ok w' :=by
 have hp:=List.mem_of_getElem? hi
 have ho:=S.ps p hp
 exact p.mono _ _ ho fun b hb=>k.block b (p.inb _ _ ho hb) fun ⟨x,hx,hxb⟩=>S.dp x (List.mem_append_left _ hx) p hp b hxb hb
theorem St.baseX {w0 w:World}{C0:Nat→Prop}{X1 X2 L:List Asr} (S:St w0 C0 w (X1++X2) L):St w (fun b=>∃ x∈X1,x.fp b) w X1 (X2++L):=by
 obtain ⟨p1,p2,p3⟩:=List.pairwise_append.1 S.dx
 refine ⟨Keep.refl _ _,fun x hx=>S.xs x (List.mem_append_left _ hx),fun p hp=>?_,p1,fun x hx p hp b h1 h2=>?_,fun x hx b hb=>.inr ⟨x,hx,hb⟩⟩
 ·rcases List.mem_append.1 hp with h | h
  ·exact S.xs p (List.mem_append_right _ h)
  ·exact S.ps p h
 ·rcases List.mem_append.1 hp with h | h
  ·exact p3 x hx p h b h1 h2
  ·exact S.dp x (List.mem_append_left _ hx) p h b h1 h2
theorem St.fromBaseX {w0 w w' :World}{C0:Nat→Prop}{X1 X2 L Xn:List Asr} (S:St w0 C0 w (X1++X2) L) (S' :St w (fun b=>∃ x∈X1,x.fp b) w' Xn (X2++L)):St w0 C0 w' (Xn++X2) L:=by
 obtain ⟨p1,p2,p3⟩:=List.pairwise_append.1 S.dx
 refine ⟨⟨S'.keep.os.trans S.keep.os,S'.keep.tape.trans S.keep.tape,S'.keep.output.trans S.keep.output,Nat.le_trans S.keep.size S'.keep.size,fun b hb hC=>?_⟩,fun x hx=>?_,fun p hp=>S'.ps p (List.mem_append_right _ hp),?_,fun x hx p hp=>?_,fun x hx b hb=>?_⟩
 ·rw [S'.keep.block b (Nat.lt_of_lt_of_le hb S.keep.size) fun hf=>?_]
  ·exact S.keep.block b hb hC
  ·obtain ⟨x,hx,hxb⟩:=hf
   rcases S.own x (List.mem_append_left _ hx) b hxb with h | h
   ·omega
   ·exact hC h
 ·rcases List.mem_append.1 hx with h | h
  ·exact S'.xs x h
  ·exact S'.ps x (List.mem_append_left _ h)
 ·exact List.pairwise_append.2 ⟨S'.dx,p2,fun a ha b hb=>S'.dp a ha b (List.mem_append_left _ hb)⟩
 ·rcases List.mem_append.1 hx with h | h
  ·exact S'.dp x h p (List.mem_append_right _ hp)
  ·exact S.dp x (List.mem_append_right _ h) p hp
 ·rcases List.mem_append.1 hx with h | h
  ·rcases S'.own x h b hb with h' | ⟨y,hy,hyb⟩
   ·exact .inl (Nat.le_trans S.keep.size h')
   ·exact S.own y (List.mem_append_left _ hy) b hyb
  ·exact S.own x (List.mem_append_right _ h) b hb
end
end Go.Fx
namespace Go.Fx
open Go
def pur (φ:Prop):Asr where
 fp _:=False
 ok _:=φ
 mono _ _ h _:=h
 inb _ _ _ h:=h.elim
theorem Pur.of {φ:Prop}{w:World} (h:(pur φ).ok w):φ:=h
section
variable {ro:Option Nat}{P:Program}{full:Array Oper}{Q:Exit→Act→World→Prop}{n:Nat}{d:List Deferred}{e:Env}{w:World}
variable {rest:List Oper}{ty:TypeId}{ps:String}{af:Array Edge}
theorem p_ldEP {α:Type}{enc:α→List Value}{s t i o m:Nat}{x:Operand}{A:Option Addr}{j:Int}{l:List α}{z:α}{vs:List Value} (hT:aggOf P t=some true) (hs:sizOf P t=some m) (hl:vs.length=m) (hg:getI l j=some z) (hw:(sl enc s A l).ok w) (hx:evn n e x=PE A (j.toNat*s+o)) (hv:((enc z).drop o).take m=vs)
 (h:wpA ro P full Q rest (E n (upd e i (AG vs)) d) w):wpA ro P full Q (⟨some i,.load t x,ty,ps,af,none⟩::rest) (E n e d) w:=by
 obtain ⟨h0,hz⟩:=getI_some hg
 obtain ⟨b,q,rfl,hc⟩:=sl_at hw hz
 refine o_ldN (b:=b) (o:=q+(j.toNat*s+o)) (by rw [hx]; rfl) hT hs hl (fun k v hk=>?_) h
 rw [show q+(j.toNat*s+o)+k=q+j.toNat*s+(o+k) by omega]
 refine hc (o+k) v ?_
 rw [← hv,List.getElem?_take] at hk
 split at hk
 ·rw [List.getElem?_drop] at hk; exact hk
 ·cases hk
end
section
variable {κ ν:Type} [DecidableEq κ] {ek:κ→Value}{ev:ν→Value}
variable {ro:Option Nat}{P:Program}{full:Array Oper}{Q:Exit→Act→World→Prop}{n:Nat}{d:List Deferred}{e:Env}{w:World}
variable {rest:List Oper}{ty:TypeId}{ps:String}{af:Array Edge}
end
section
variable {ro:Option Nat}{P:Program}{full:Array Oper}{Q:Exit→Act→World→Prop}{n:Nat}{d:List Deferred}{e:Env}{w:World}
variable {rest:List Oper}{ty:TypeId}{ps:String}{af:Array Edge}{x y:Operand}{i xt yt:Nat}{a b:Int}{k:IntKind}
end
section
variable {κ ν:Type} [DecidableEq κ] {ek:κ→Value}{ev:ν→Value}
variable {ro:Option Nat}{P:Program}{full:Array Oper}{Q:Exit→Act→World→Prop}{n:Nat}{d:List Deferred}{e:Env}{w w0:World}{C:Nat→Prop}{X L:List Asr}
variable {rest:List Oper}{ty:TypeId}{ps:String}{af:Array Edge}
theorem o_ins {t kt el i m:Nat}{x y z:Operand}{a:κ}{v:ν}{l:List (κ×ν)} (hx:evn n e x=.map (some m)) (hy:evn n e y=ek a) (hz:evn n e z=ev v) (hT:mptOf P t=some (kt,el)) (K:KeyL P kt ek)
 (S:St w0 C w X L) (hi:X[i]? =some (mp ek ev m l))
 (h:∀ w',St w0 C w' (X.set i (mp ek ev m (putL l a v))) L→wpA ro P full Q rest (E n e d) w'):
 wpA ro P full Q (⟨none,.insert t x y z,ty,ps,af,none⟩::rest) (E n e d) w:=by
 obtain ⟨es,clock,hh,hl,hst⟩:=S.atX hi
 have hkeys:((es.map (mkE ek ev)).toArray.toList).map (·.key)=(l.map (·.1)).map ek:=by
  rw [← hl]; simp [mkE,Function.comp_def]
 have hf:=K.find a _ _ hkeys w
 have hgo:(getObj m).run P w=.ok (mapO ek ev es clock) w:=by
  simp only [getObj,Sem.run,hh,mapO]
 have hlt:=(Array.getElem?_eq_some_iff.1 hh).1
 have hset:∀ o,(setObj m o).run P w=.ok () (setB w m o):=by
  intro o
  simp only [setObj,Sem.run,hh,mapO]
  rfl
 have fin:∀ (es' :List (Nat×κ×ν)) (c' :Nat),es'.map (·.2)=putL l a v→Stamped es' c' →(execOp (evn n e) ⟨none,.insert t x y z,ty,ps,af,none⟩).run P w=.ok .skip (setB w m (mapO ek ev es' c'))→
  wpA ro P full Q (⟨none,.insert t x y z,ty,ps,af,none⟩::rest) (E n e d) w:=by
  intro es' c' h1 h2 h3
  refine op_skip rfl (fun _ h=>by cases h) h3 (h _ (S.turn hi (y:=mp ek ev m (putL l a v)) ⟨es',c',?_,h1,h2⟩ (fun b hb=>.inl hb) rfl rfl rfl (by simp [setB]) (fun b hb hne=>?_)))
  ·simp [setB,hlt]
  ·have hne' :b≠m:=hne
   show (w.heap.setIfInBounds m _)[b]? =_
   rw [Array.getElem?_setIfInBounds_ne (fun h=>hne' h.symm)]
 cases hfi:(l.map (·.1)).findIdx? (·==a) with
 | none=>
   rw [hfi] at hf
   refine fin (es++[(clock,a,v)]) (clock+1) (by rw [putL_none hfi]; simp [hl]) ⟨?_,?_⟩ ?_
   ·rw [List.map_append,List.nodup_append]
    refine ⟨hst.1,by simp,fun x hx y hy=>?_⟩
    simp at hy; subst hy
    obtain ⟨z,hz,rfl⟩:=List.mem_map.1 hx
    have:=hst.2 z hz
    omega
   ·intro x hx
    rcases List.mem_append.1 hx with h | h
    ·have:=hst.2 x h; omega
    ·simp at h; subst h; simp
   ·simp only [execOp,hx,hy,hz,Instr.mapUpdate,Sem.run_bind,run_und (mpt_und hT),Result.andThen_ok,hgo,mapO,K.check]
    simp at hf ⊢
    simp [hf,hset,mkE]
 | some j=>
   have hj:j < l.length:=by
    have:=List.findIdx?_eq_some_iff_findIdx_eq.1 hfi
    simpa using this.1
   have hje:j < es.length:=by rw [← hl] at hj; simpa using hj
   have hkj:l[j].1=a:=by
    have:=(List.findIdx?_eq_some_iff_getElem.1 hfi).2.1
    simpa using this
   have hke:es[j].2.1=a:=by subst hl; simpa using hkj
   rw [hfi] at hf
   refine fin (es.set j (es[j].1,a,v)) clock (by rw [putL_some hfi,← hl]; simp [List.map_set]) ⟨?_,?_⟩ ?_
   ·have:(es.set j (es[j].1,a,v)).map (·.1)=es.map (·.1):=by
     rw [List.map_set]
     exact List.ext_getElem (by simp) fun i h1 h2=>by
      rw [List.getElem_set]; split
      ·rename_i hh; subst hh; simp
      ·rfl
    rw [this]; exact hst.1
   ·intro x hx
    rcases List.mem_or_eq_of_mem_set hx with h | h
    ·exact hst.2 x h
    ·subst h; exact hst.2 es[j] (List.getElem_mem hje)
   ·have hkey:(((es.map (mkE ek ev)).toArray[j]?).map (·.key)).getD (ek a)=ek a:=by
     simp [hje,mkE,hke]
    have hmod:((es.map (mkE ek ev)).toArray.modify j fun x=>{ x with key:=ek a,val:=ev v })=((es.set j (es[j].1,a,v)).map (mkE ek ev)).toArray:=by
     refine Array.ext (by simp) fun i h1 h2=>?_
     simp only [Array.getElem_modify,List.getElem_toArray,List.getElem_map,List.getElem_set]
     split
     ·rename_i hh; subst hh; rfl
     ·rfl
    simp only [execOp,hx,hy,hz,Instr.mapUpdate,Sem.run_bind,run_und (mpt_und hT),Result.andThen_ok,hgo,mapO,K.check]
    simp only [Option.map_some] at hf
    rw [hf]
    simp only [Result.andThen_ok,hkey,Instr.keyThatStays,K.bits,if_true,Sem.run_pure,hmod,hset,Sem.run_bind]
end
end Go.Fx
namespace Go.Fx
open Go
def ga {σ:Type} (G:σ→Asr→Prop) (s:σ) (A:Asr):Asr where
 fp:=A.fp
 ok w:=G s A∧A.ok w
 mono w w' h k:=⟨h.1,A.mono _ _ h.2 k⟩
 inb w b h hb:=A.inb _ _ h.2 hb
structure Link (w:World) (C0:Nat→Prop) (w0:World) (C:Nat→Prop):Prop where
 keep:Keep C0 w w0
 fp:∀ b,C b→C0 b∨w.heap.size≤b
theorem Link.refl (w:World) (C:Nat→Prop):Link w C w C:=⟨Keep.refl _ _,fun _ h=>.inl h⟩
theorem Link.trans {w w0 w1:World}{C0 C C1:Nat→Prop} (h:Link w C0 w0 C) (k:Link w0 C w1 C1):Link w C0 w1 C1:=by
 refine ⟨⟨k.keep.os.trans h.keep.os,k.keep.tape.trans h.keep.tape,k.keep.output.trans h.keep.output,Nat.le_trans h.keep.size k.keep.size,fun b hb hn=>?_⟩,fun b hb=>?_⟩
 ·refine (k.keep.block b (Nat.lt_of_lt_of_le hb h.keep.size) fun hc=>?_).trans (h.keep.block b hb hn)
  rcases h.fp b hc with h' | h'
  ·exact hn h'
  ·omega
 ·rcases k.fp b hb with h' | h'
  ·exact h.fp b h'
  ·exact .inr (Nat.le_trans h.keep.size h')
theorem Link.of {w w0 w1:World}{C0 C:Nat→Prop} (h:Link w C0 w0 C) (k:Keep C w0 w1):Keep C0 w w1:=(h.trans ⟨k,fun _ h=>.inl h⟩:Link w C0 w1 C).keep
def YH (P:Program) (l:Nat) {ε σ:Type} (enc:ε→List Value) (yv:ε→σ→Option (Bool×σ)) (G:σ→Asr→Prop) (w:World) (C0:Nat→Prop):Prop:=
 ∀ x s b s2 A w2,yv x s=some (b,s2)→G s A→A.ok w2→Keep C0 w w2→(∀ b,A.fp b→C0 b∨w.heap.size≤b)→
   YieldsTo P l (enc x).toArray w2 fun r w3=>r=b∧Keep A.fp w2 w3∧∃ A',A'.ok w3∧(∀ b,A'.fp b→A.fp b∨w2.heap.size≤b)∧G s2 A'
def IterG (P:Program) (f:Nat) (first caps:Array Value) {ε:Type} (enc:ε→List Value) (it:∀ {σ:Type},(ε→σ→Option (Bool×σ))→σ→Option σ) (w:World) (K:List Asr):Prop:=
 ∀ (σ:Type) (yv:ε→σ→Option (Bool×σ)) (s s' :σ) (l:Nat) (G:σ→Asr→Prop) (A0:Asr),it yv s=some s' →(ga G s A0).ok w→(∀ p∈K,p.ok w)→(∀ p∈K,∀ b,p.fp b→¬A0.fp b)→YH P l enc yv G w A0.fp→
   Calls P f (first++#[.func (.yield l) #[] #[]]++caps) w fun en w' =>∃ v,en=.returned v∧Keep A0.fp w w' ∧∃ A',(ga G s' A').ok w' ∧(∀ b,A'.fp b→A0.fp b∨w.heap.size≤b)
def yvOf {ε α:Type} (bd:ε→α→Option (Bool×Nat×α)) (x:ε) (s:Nat×α):Option (Bool×Nat×α):=bif s.1==0 then bd x s.2 else none
theorem yvOf_some {ε α:Type}{bd:ε→α→Option (Bool×Nat×α)}{x:ε}{s:Nat×α}{r:Bool×Nat×α} (h:yvOf bd x s=some r):s.1=0∧bd x s.2=some r:=by
 unfold yvOf at h
 cases hs:(s.1==0)
 ·rw [hs] at h; cases h
 ·rw [hs] at h; exact ⟨by simpa using hs,h⟩
def exOf:Code→Exit
 | .ret=>.ret
 | .exit id=>.exit id
 | _=>.normal
section
variable {P:Program}{w0 w:World}{C:Nat→Prop}{X L:List Asr}
theorem o_yieldG {ro:Option Nat}{full:Array Oper}{Q:Exit→Act→World→Prop}{n:Nat}{d:List Deferred}{e:Env}{rest:List Oper}{ty:TypeId}{ps:String}{af:Array Edge}
 {ε σ:Type}{enc:ε→List Value}{yv:ε→σ→Option (Bool×σ)}{G:σ→Asr→Prop}{s s2:σ}{A:Asr}{wb:World}{C0:Nat→Prop}{x:ε}{b:Bool}{i l j:Nat}{g:Operand}{aa:Array Operand}{ts:Array TypeId}
 (hb:yv x s=some (b,s2)) (hy:YH P l enc yv G wb C0) (hl:Link wb C0 w0 C) (S:St w0 C w X L) (hj:X[j]? =some (ga G s A)) (hg:evn n e g=.func (.yield l) #[] #[]) (ha:aa.toList.map (evn n e)=enc x)
 (h:∀ A' w',St w0 C w' (X.set j (ga G s2 A')) L→wpA ro P full Q rest (E n (upd e i (.bool b)) d) w'):wpA ro P full Q (⟨some i,.call ⟨.value g,aa,ts⟩,ty,ps,af,none⟩::rest) (E n e d) w:=by
 have hA:(ga G s A).ok w:=S.atX hj
 have hf:∀ b,A.fp b→C0 b∨wb.heap.size≤b:=fun b hb=>by
  rcases S.own _ (List.mem_of_getElem? hj) b hb with h | h
  ·exact .inr (Nat.le_trans hl.keep.size h)
  ·exact hl.fp b h
 refine o_yield hg ha (hy x s b s2 A w hb hA.1 hA.2 (hl.of S.keep) hf) fun r w' ⟨hr,hk,A',hok,hfp,hG⟩=>?_
 subst hr
 exact h A' w' (S.turn hj (y:=ga G s2 A') ⟨hG,hok⟩ hfp hk.os hk.tape hk.output hk.size fun b hb hne=>hk.block b hb hne)
theorem St.itCall {σ:Type}{G:σ→Asr→Prop}{s s2:σ}{A A' :Asr}{w' :World} (S:St w0 C w X L) {j:Nat} (hj:X[j]? =some (ga G s A)) (hk:Keep A.fp w w') (hok:(ga G s2 A').ok w') (hf:∀ b,A'.fp b→A.fp b∨w.heap.size≤b):St w0 C w' (X.set j (ga G s2 A')) L:=
 S.turn hj hok hf hk.os hk.tape hk.output hk.size fun b hb hne=>hk.block b hb hne
theorem St.link {σ:Type}{G:σ→Asr→Prop}{s:σ}{A:Asr}{wb:World}{C0:Nat→Prop} (S:St w0 C w X L) {j:Nat} (hj:X[j]? =some (ga G s A)) (hl:Link wb C0 w0 C):Link wb C0 w A.fp:=
 hl.trans ⟨S.keep,fun b hb=>(S.own _ (List.mem_of_getElem? hj) b hb).symm⟩
theorem St.apart {A:Asr} (S:St w0 C w X L) {j:Nat}{p:Asr} (hj:X[j]? =some p) (hp:∀ b,A.fp b→p.fp b):∀ q∈L,∀ b,q.fp b→¬A.fp b:=fun q hq b h1 h2=>S.dp _ (List.mem_of_getElem? hj) q hq b (hp b h2) h1
end
section
variable {ro:Option Nat}{P:Program}{Q:Exit→Act→World→Prop}{n:Nat}{d:List Deferred}{e:Env}{w w0:World}{C:Nat→Prop}{L:List Asr}
variable {α β ε:Type}
theorem ent_none {X0:List Asr}{tm:Array Value}{ps:Array Tmp}{assign body:Code} (S:St w0 C w X0 L):∀ fn,∃ l D w1,(Instr.enterLoop fn tm ps assign body none).run P w=.ok (l,mark D) w1∧
 St w0 C w1 (bx l (.loop (recL fn tm ps assign body D .ready none))::(X0++[bx D (.deferred (some []))])) L:=by
 intro fn
 refine ⟨(w.alloc (.deferred (some []))).heap.size,w.heap.size,(w.alloc (.deferred (some []))).alloc (.loop (recL fn tm ps assign body w.heap.size .ready none)),?_,(((S.alloc (.deferred (some []))).alloc (.loop (recL fn tm ps assign body w.heap.size .ready none))).perm (List.Perm.cons _ (List.perm_append_singleton _ _).symm))⟩
 simp only [Instr.enterLoop,newObj]
 rfl
theorem ent_some {X0:List Asr}{l0:Nat}{o0:Obj}{tm:Array Value}{ps:Array Tmp}{assign body:Code} (ho:∃ r,o0=.loop r) (S:St w0 C w (X0++[bx l0 o0]) L):∀ fn,∃ l D w1,(Instr.enterLoop fn tm ps assign body (some l0)).run P w=.ok (l,[]) w1∧
 St w0 C w1 (bx l (.loop (recL fn tm ps assign body D .ready none))::(X0++[bx l0 o0])) L:=by
 intro fn
 obtain ⟨r,rfl⟩:=ho
 have h0:w.heap[l0]? =some (.loop r):=S.xs _ (List.mem_append_right _ (List.mem_singleton.2 rfl))
 refine ⟨w.heap.size,r.defers,w.alloc (.loop (recL fn tm ps assign body r.defers .ready none)),?_,S.alloc (.loop (recL fn tm ps assign body r.defers .ready none))⟩
 simp [Instr.enterLoop,run_getLoop h0,newObj]
 rfl
theorem c_rangeG {g:Operand}{ps:Array Tmp}{assign body:Code}{f:Nat}{first caps:Array Value}{K:List Asr}{MK:Nat→List Deferred}{XR:Nat→List Asr}{it:∀ {σ:Type},(ε→σ→Option (Bool×σ))→σ→Option σ}{enc:ε→List Value}
 (bd:ε→α→Option (Bool×Nat×α)) (codes:List Code) (X:α→β→List Asr) (z0:α) (y0:β) {r:Nat×α} (H:it (yvOf bd) (0,z0)=some r)
 (hent:∀ fn,∃ l D w1,(Instr.enterLoop fn (E n e d).tmps ps assign body ro).run P w=.ok (l,MK D) w1∧St w0 C w1 (bx l (.loop (recL fn (E n e d).tmps ps assign body D .ready none))::(X z0 y0++XR D)) L)
 (hg:evn n e g=.func (.func f) first caps) (hF:funOf P f=true) (hit:∀ w',IterG P f first caps enc it w' K) (hK:∀ p∈K,p∈L) (hlen:∀ x,(enc x).length=ps.size) (hcodes:∀ c∈codes,c=.ret∨∃ id,c=.exit id)
 (round:∀ (l:Nat) (oR oB:Obj) (Cr:Nat→Prop) (x:ε) (z:α) (y:β) (w2:World) (b:Bool) (c2:Nat) (z2:α) (PP:Exit→Act→World→Prop),bd x z=some (b,c2,z2)→St w2 Cr w2 (bx l oR::X z y) L→Link w0 C w2 Cr→(∃ r,oB=.loop r)→
  (∀ (w1:World) (XX:List Asr) (k:Nat) (Kt:World→Prop),St w2 Cr w1 XX L→XX[k]? =some (bx l oR)→(∀ w',St w2 Cr w' (XX.set k (bx l oB)) L→Kt w')→∃ w',(Instr.beginRound l).run P w1=.ok () w' ∧Kt w')→
  (∀ a w3 z' y',St w2 Cr w3 (bx l oB::X z' y') L→(true,0,z')=(b,c2,z2)→PP .normal a w3)→
  (∀ (k:Nat) (c:Code) a w3 z' y',codes[k]? =some c→St w2 Cr w3 (bx l oB::X z' y') L→(false,k+1,z')=(b,c2,z2)→PP (exOf c) a w3)→
  assign.wpIn (Fr (some l)) 0 P (Exit.then (fun a₁ w₁=>∃ w₂,(Instr.beginRound l).run P w₁=.ok () w₂∧body.wpIn (Fr (some l)) 0 P PP a₁ w₂) (fun _ _ _=>False)) (E n (upl e ps.toList (enc x)) []) w2)
 (done:r.1=0→∀ (l D:Nat) (o:Obj) (y:β) (w' :World),St w0 C w' (bx l o::(X r.2 y++XR D)) L→Q .normal (E n e (MK D++d)) w')
 (jump:∀ (k:Nat) (c:Code),codes[k]? =some c→r.1=k+1→∀ (l D:Nat) (o:Obj) (y:β) (w' :World),St w0 C w' (bx l o::(X r.2 y++XR D)) L→c.wpIn (Fr ro) 0 P Q (E n e (MK D++d)) w'):
 (Code.rangeFunc g ps assign body).wpIn (Fr ro) 0 P Q (E n e d) w:=by
 refine wpIn_rangeFunc fun fn _=>?_
 obtain ⟨l,D,w1,hrun,S1⟩:=hent fn
 let rc:=recL fn (E n e d).tmps ps assign body D
 have S2:St w0 C w1 ((bx l (.loop (rc .ready none))::X z0 y0)++XR D) L:=S1
 let A0:=all (bx l (.loop (rc .ready none))::X z0 y0)
 have hA0:A0.ok w1:=⟨fun x hx=>S2.xs x (List.mem_append_left _ hx),(List.pairwise_append.1 S2.dx).1⟩
 have hdA:∀ p∈L,∀ b,p.fp b→¬A0.fp b:=fun p hp b hb ⟨x,hx,hxb⟩=>S2.dp x (List.mem_append_left _ hx) p hp b hxb hb
 have hev:(E n e d).eval g=.func (.func f) first caps:=by rw [E_eval]; exact hg
 let G:Nat×α→Asr→Prop:=fun s A=>(s.1=0∧∃ y,A=all (bx l (.loop (rc .ready none))::X s.2 y))∨(∃ k c y,s.1=k+1∧codes[k]? =some c∧A=all (bx l (.loop (rc .done (some c)))::X s.2 y))
 have hown0:∀ b,A0.fp b→C b∨w0.heap.size≤b:=fun b ⟨x,hx,hb⟩=>(S2.own x (List.mem_append_left _ hx) b hb).symm
 refine ⟨l,MK D,w1,{ target:=.fn (.func f) caps,args:=first++#[.func (.yield l) #[] #[]] },w1,f,first++#[.func (.yield l) #[] #[]]++caps,w1,hrun,?_,fun _ _=>trivial,run_invoke hF _,fun h=>by simp at h,?_⟩
 ·have hcn:∀ v,(E n e d).eval (.const v)=v:=fun _=>rfl
  simp [resolve,rangeCall,hev,hcn,Deferred.ofValue]
 refine callsIn_of (fun _=>trivial) rfl rfl ?_
 refine (hit w1 _ (yvOf bd) (0,z0) r l G A0 H ⟨.inl ⟨rfl,y0,rfl⟩,hA0⟩ (fun p hp=>S2.ps p (hK p hp)) (fun p hp=>hdA p (hK p hp)) ?_).mono ?_
 ·rintro x ⟨c,z⟩ b ⟨c2,z2⟩ A w2 hyv hG hok hkp hfp
  obtain ⟨hc0,hbd⟩:=yvOf_some hyv
  simp only at hc0 hbd
  subst hc0
  rcases hG with ⟨_,y,rfl⟩ | ⟨k,_,_,hk,_⟩
  case inr=>simp at hk
  have SL:St w2 (all (bx l (.loop (rc .ready none))::X z y)).fp w2 (bx l (.loop (rc .ready none))::X z y) L:=by
   refine ⟨Keep.refl _ _,hok.1,fun p hp=>p.mono _ _ (S2.ps p hp) fun b hb=>hkp.block b (p.inb _ _ (S2.ps p hp) hb) (hdA p hp b hb),hok.2,fun x hx p hp b hxb hpb=>?_,fun x hx b hb=>.inr ⟨x,hx,hb⟩⟩
   rcases hfp b ⟨x,hx,hxb⟩ with h | h
   ·exact hdA p hp b hpb h
   ·have:=p.inb _ _ (S2.ps p hp) hpb; omega
  have hlink:Link w0 C w2 (all (bx l (.loop (rc .ready none))::X z y)).fp:=
   (⟨S2.keep,hown0⟩:Link w0 C w1 A0.fp).trans ⟨hkp,fun b hb=>hfp b hb⟩
  have hw:=round l (.loop (rc .ready none)) (.loop (rc .busy none)) _ x z y w2 b c2 z2
   (roundPost P l (RR l rc (fun _ (p:α×β)=>(true,0,p.1)=(b,c2,z2)) (fun cd (p:α×β)=>∃ k,codes[k]? =some cd∧(false,k+1,p.1)=(b,c2,z2)) (fun p=>X p.1 p.2) 0 w2 (all (bx l (.loop (rc .ready none))::X z y))))
   hbd SL hlink ⟨_,rfl⟩ (fun w1 XX k Kt S hk hKt=>rr_begin S hk hKt)
   (fun a w3 z' y' S hz=>rr_next (y' :=(z',y')) S hz)
   (fun k c a w3 z' y' hk S hz=>by
    rcases hcodes c (List.mem_of_getElem? hk) with rfl | ⟨id,rfl⟩
    ·exact rr_ret (y' :=(z',y')) S ⟨k,hk,hz⟩
    ·exact rr_exit (y' :=(z',y')) S ⟨k,hk,hz⟩)
  refine ⟨fn,(E n (upl e ps.toList (enc x)) d).tmps,assign,body,?_,?_⟩
  ·have h1:w2.heap[l]? =some (.loop (rc .ready none)):=SL.at (i:=0) rfl
   have hz:(Array.foldl (fun (t:Array Value) (p:Nat×Value)=>t.setIfInBounds p.1 p.2) (E n e d).tmps (ps.zip (enc x).toArray))=(E n (upl e ps.toList (enc x)) d).tmps:=by
    rw [← upl_E,← Array.foldl_toList,Array.toList_zip]
   have hsz:(enc x).toArray.size=ps.size:=by simpa using hlen x
   have hrun:(Instr.yield l (enc x).toArray).run P w2=.ok (.round l fn (Array.foldl (fun (t:Array Value) (p:Nat×Value)=>t.setIfInBounds p.1 p.2) (E n e d).tmps (ps.zip (enc x).toArray)) assign body) w2:=by
    have hsz2:(enc x).length=ps.size:=hlen x
    simp [Instr.yield,run_getLoop h1,rc,recL,hsz2]
   rw [hrun,hz]
  ·have hri:RoundIn (Fr none) 0 P l fn (E n (upl e ps.toList (enc x)) d).tmps assign body w2 (RR l rc (fun _ (p:α×β)=>(true,0,p.1)=(b,c2,z2)) (fun cd (p:α×β)=>∃ k,codes[k]? =some cd∧(false,k+1,p.1)=(b,c2,z2)) (fun p=>X p.1 p.2) 0 w2 (all (bx l (.loop (rc .ready none))::X z y))):=roundIn_of_wpIn trivial hw
   refine RoundIn.mono hri ?_
   rintro en w3 ⟨q,he,hk,A',hok',hfp',hG⟩
   rcases hG with ⟨rfl,⟨z',y'⟩,hI,rfl⟩ | ⟨rfl,⟨z',y'⟩,cd,⟨k,hck,hI⟩,rfl⟩
   ·injection hI with h1 h2; injection h2 with h2 h3
    subst h1 h2 h3
    exact ⟨true,he,rfl,hk,_,hok',hfp',.inl ⟨rfl,y',rfl⟩⟩
   ·injection hI with h1 h2; injection h2 with h2 h3
    subst h1 h2 h3
    exact ⟨false,he,rfl,hk,_,hok',hfp',.inr ⟨k,cd,y',rfl,hck,rfl⟩⟩
 ·rintro en w3 ⟨v,rfl,hkp,A',⟨hG,hok⟩,hfp⟩
  rcases hG with ⟨hr,y,rfl⟩ | ⟨k,c,y,hr,hk,rfl⟩
  ·have S3:=S2.frame hkp hok hfp
   refine ⟨none,_,run_endLoop (S3.at (i:=0) rfl) (by simp [rc,recL]),?_⟩
   exact done hr l D _ y _ (S3.setB (i:=0) rfl)
  ·have S3:=S2.frame hkp hok hfp
   refine ⟨some c,_,run_endLoop (S3.at (i:=0) rfl) (by simp [rc,recL]),?_⟩
   exact jump k c hk hr l D _ y _ (S3.setB (i:=0) rfl)
end
end Go.Fx
namespace Go.Fx
theorem leave_markN {P:Program}{n:Nat}{d:List Deferred}{e:Env}{w w0:World}{C:Nat→Prop}{L:List Asr}{fn:Func}{R:Ending→World→Prop}{XX:List Asr}{i D:Nat} (S:St w0 C w XX L) (hi:XX[i]? =some (bx D (.deferred (some [])))) (h:∀ w',St w0 C w' (XX.set i (bx D (.deferred none))) L→bodyPostM (Fr none) 0 P fn R .normal (E n e d) w'):
 bodyPostM (Fr none) 0 P fn R .normal (E n e (mark D++d)) w:=by
 refine ⟨by simp,.inl ⟨D,setB w D (.deferred none),rfl,?_,h _ (S.setB hi)⟩⟩
 have h1:=S.at hi
 have h2:(getObj D).run P w=.ok (.deferred (some [])) w:=by simp only [getObj,Sem.run,h1]
 have h3:(setObj D (.deferred none)).run P w=.ok () (setB w D (.deferred none)):=by simp only [setObj,Sem.run,h1]; rfl
 simp [Instr.takeDeferred,h2,h3]
end Go.Fx
namespace Go.Fx
open Go
section
variable {α:Type} [Inhabited α] {enc:α→List Value}{s:Nat}
def agetS (l:List α) (j:Int):α:=l.getD j.toNat default
def asetS (l:List α) (n:Nat) (i:Int) (x:α):List α:=(List.range n).map fun k=>if k=i.toNat then x else l.getD k default
def sgEF (enc:α→List Value) (l:List α):Nat→Nat→List Value
 | _,0=>[]
 | k,n+1=>enc (l.getD k default)++sgEF enc l (k+1) n
def sgE (enc:α→List Value) (l:List α) (n:Nat):List Value:=sgEF enc l 0 n
theorem sgEF_len (he:∀ x,(enc x).length=s) (l:List α):∀ (n k:Nat),(sgEF enc l k n).length=n*s
 | 0,_=>by simp [sgEF]
 | n+1,k=>by rw [sgEF,List.length_append,he,sgEF_len he l n (k+1),Nat.succ_mul]; omega
theorem sgEF_app (l:List α):∀ (m k n:Nat),sgEF enc l k (m+n)=sgEF enc l k m++sgEF enc l (k+m) n
 | 0,k,n=>by simp [sgEF]
 | m+1,k,n=>by rw [show m+1+n=(m+n)+1 by omega,sgEF,sgEF,sgEF_app l m (k+1) n,List.append_assoc,show k+1+m=k+(m+1) by omega]
theorem sgEF_congr {l l' :List α}:∀ (n k:Nat),(∀ i,k≤i→i < k+n→l.getD i default=l'.getD i default)→sgEF enc l k n=sgEF enc l' k n
 | 0,_,_=>rfl
 | n+1,k,h=>by rw [sgEF,sgEF,h k (Nat.le_refl _) (by omega),sgEF_congr n (k+1) fun i h1 h2=>h i (by omega) (by omega)]
theorem asetS_get {l:List α}{n:Nat}{i:Int}{x:α}{k:Nat} (hk:k < n):(asetS l n i x).getD k default=if k=i.toNat then x else l.getD k default:=by
 simp [asetS,List.getD_eq_getElem?_getD,hk]
theorem sgE_split (l:List α) {n k:Nat} (hk:k < n):sgE enc l n=sgEF enc l 0 k++enc (l.getD k default)++sgEF enc l (k+1) (n - k - 1):=by
 unfold sgE
 conv=>lhs; rw [show n=k+((n - k - 1)+1) by omega]
 rw [sgEF_app,sgEF,Nat.zero_add,List.append_assoc]
theorem sgE_set (l:List α) {n:Nat}{j:Int}{x:α} (hk:j.toNat < n):sgE enc (asetS l n j x) n=sgEF enc l 0 j.toNat++enc x++sgEF enc l (j.toNat+1) (n - j.toNat - 1):=by
 rw [sgE_split _ hk,asetS_get hk,if_pos rfl,sgEF_congr (l' :=l) j.toNat 0 fun i h1 h2=>by rw [asetS_get (by omega),if_neg (by omega)],sgEF_congr (l' :=l) (n - j.toNat - 1) (j.toNat+1) fun i h1 h2=>by rw [asetS_get (by omega),if_neg (by omega)]]
variable {ro:Option Nat}{P:Program}{full:Array Oper}{Q:Exit→Act→World→Prop}{n:Nat}{d:List Deferred}{e:Env}{w w0:World}{C:Nat→Prop}{X L:List Asr}
variable {rest:List Oper}{ty:TypeId}{ps:String}{af:Array Edge}
theorem p_ldDA {t i b o m:Nat}{x:Operand}{pre post cs:List Value}{l:List α}{j:Int}{ct:TypeId} (hT:aggOf P t=some true) (hs:sizOf P t=some s) (hw:w.heap[b]? =some (.cells cs.toArray ct)) (hc:cs=pre++(sgE enc l m++post)) (he:∀ x,(enc x).length=s) (hj:inI j m=true)
 (hx:evn n e x=.pointer (some ⟨b,o+j.toNat*s,none⟩)) (ho:pre.length=o)
 (h:wpA ro P full Q rest (E n (upd e i (AG (enc (agetS l j)))) d) w):wpA ro P full Q (⟨some i,.load t x,ty,ps,af,none⟩::rest) (E n e d) w:=by
 obtain ⟨h0,h1⟩:=inI_spec hj
 have hk:j.toNat < m:=by omega
 have hA:=sgEF_len he l j.toNat 0
 refine o_ldN hx hT hs (he _) (box_cells hw ?_) h
 rw [hc,sgE_split l hk,he]
 have e1:pre++(sgEF enc l 0 j.toNat++enc (l.getD j.toNat default)++sgEF enc l (j.toNat+1) (m - j.toNat - 1)++post)=(pre++sgEF enc l 0 j.toNat)++(enc (l.getD j.toNat default)++(sgEF enc l (j.toNat+1) (m - j.toNat - 1)++post)):=by simp
 simp only [List.toList_toArray]
 rw [e1,List.drop_left' (by simp; omega),List.take_left' (he _)]
 rfl
theorem p_stDE {t b i o m:Nat}{x y:Operand}{cs pre post vs:List Value}{l:List α}{x' :α}{j:Int}{v:Value}{ct:TypeId} (hs:sizOf P t=some s) (S:St w0 C w X L) (hi:X[i]? =some (bl b cs ct)) (hcs:cs=pre++(sgE enc l m++post)) (he:∀ x,(enc x).length=s) (h1:∀ x,∀ u∈enc x,u.oneCell' =true) (hj:inI j m=true)
 (hx:evn n e x=.pointer (some ⟨b,o+j.toNat*s,none⟩)) (ho:pre.length=o) (hy:evn n e y=v) (hv:v.cells.toList=enc x')
 (h:∀ w',St w0 C w' (X.set i (bl b (pre++(sgE enc (asetS l m j x') m++post)) ct)) L→wpA ro P full Q rest (E n e d) w'):wpA ro P full Q (⟨none,.store t x y,ty,ps,af,none⟩::rest) (E n e d) w:=by
 obtain ⟨h0,h2⟩:=inI_spec hj
 have hk:j.toNat < m:=by omega
 have hA:=sgEF_len he l j.toNat 0
 have e1:cs=(pre++sgEF enc l 0 j.toNat)++enc (l.getD j.toNat default)++(sgEF enc l (j.toNat+1) (m - j.toNat - 1)++post):=by rw [hcs,sgE_split l hk]; simp
 have e2:pre++(sgE enc (asetS l m j x') m++post)=(pre++sgEF enc l 0 j.toNat)++enc x' ++(sgEF enc l (j.toNat+1) (m - j.toNat - 1)++post):=by rw [sgE_set l hk]; simp
 rw [e2] at h
 refine o_sto (vs:=enc x') hx hy hv hs (he _) (by rw [List.all_eq_true]; exact h1 x') S hi ?_ ?_ h
 ·rw [e1]; simp only [List.size_toArray,List.length_append,he,hA]; omega
 ·rw [e1]
  have:=putAt_toArray (enc x') (pre++sgEF enc l 0 j.toNat) (enc (l.getD j.toNat default)) (sgEF enc l (j.toNat+1) (m - j.toNat - 1)++post) (by rw [he,he])
  rw [show (pre++sgEF enc l 0 j.toNat).length=o+j.toNat*s by rw [List.length_append,hA,ho]] at this
  exact this
end
end Go.Fx
namespace Go.Fx
section
def arrElOf (P:Program) (t:TypeId):Option (Nat×TypeId):=match P.underlying t with | some (.array n el)=>some (n,el) | _=>none
variable {ro:Option Nat}{P:Program}{full:Array Oper}{Q:Exit→Act→World→Prop}{n:Nat}{d:List Deferred}{e:Env}{w w0:World}{C:Nat→Prop}{X L:List Asr}
variable {rest:List Oper}{ty:TypeId}{ps:String}{af:Array Edge}
theorem arrEl_und {t m el:Nat} (h:arrElOf P t=some (m,el)):P.underlying t=some (.array m el):=by
 unfold arrElOf at h
 split at h
 ·rename_i hu; cases h; exact hu
 ·cases h
theorem p_idxI {t i el m:Nat}{x y:Operand}{l:List Int}{k:IntKind}{j:Int} (hT:arrElOf P t=some (m,el)) (hs:sizOf P el=some 1) (hA:aggOf P el=some false) (hj:inI j m=true) (hx:evn n e x=AG (sg l m)) (hy:evn n e y=.int k j)
 (h:wpA ro P full Q rest (E n (upd e i (I (aget l j))) d) w):wpA ro P full Q (⟨some i,.index t x y,ty,ps,af,none⟩::rest) (E n e d) w:=by
 obtain ⟨h0,h1⟩:=inI_spec hj
 have hg:(sg l m)[j.toNat]? =some (I (aget l j)):=sg_get l (by omega)
 have hj' :j < (m:Int):=h1
 refine op_val (v:=I (aget l j)) rfl (fun _ h=>by cases h) ?_ h
 have hx' :evn n e x=.agg (sg l m).toArray:=hx
 simp [execOp,Instr.index,hx',hy,asIntOf,run_und (arrEl_und hT),h0,h1,run_sizeOf hs,part,run_isAgg hA,hg]
theorem p_idxS {α:Type} [Inhabited α] {enc:α→List Value}{s t i el m:Nat}{x y:Operand}{l:List α}{k:IntKind}{j:Int} (hT:arrElOf P t=some (m,el)) (hs:sizOf P el=some s) (hA:aggOf P el=some true) (he:∀ x,(enc x).length=s) (hj:inI j m=true) (hx:evn n e x=AG (sgE enc l m)) (hy:evn n e y=.int k j)
 (h:wpA ro P full Q rest (E n (upd e i (AG (enc (agetS l j)))) d) w):wpA ro P full Q (⟨some i,.index t x y,ty,ps,af,none⟩::rest) (E n e d) w:=by
 obtain ⟨h0,h1⟩:=inI_spec hj
 have hA' :=sgEF_len he l j.toNat 0
 have hg:List.take s (List.drop (j.toNat*s) (sgE enc l m))=enc (agetS l j):=by
  rw [sgE_split l (show j.toNat < m by omega),List.append_assoc,List.drop_left' hA',List.take_left' (he _)]
  rfl
 refine op_val (v:=AG (enc (agetS l j))) rfl (fun _ h=>by cases h) ?_ h
 have hx' :evn n e x=.agg (sgE enc l m).toArray:=hx
 simp only [execOp,Instr.index,hx',hy,asIntOf]
 simp [run_und (arrEl_und hT),h0,h1,run_sizeOf hs,part,run_isAgg hA,hg]
end
end Go.Fx
namespace Go.Fx
section
variable {κ ν:Type}{ek:κ→Value}{ev:ν→Value}{w w0:World}{C:Nat→Prop}{X L:List Asr}
theorem St.mpoL {m:Nat}{l:List (κ×ν)} (S:St w0 C w X L) {i:Nat} (hi:L[i]? =some (mp ek ev m l)):St w0 C w X (mpo ek ev (some m) l::L):=by
 refine S.addL' (mpo_some (S.atP hi)) fun b hb x hx hxb=>S.dp x hx _ (List.mem_of_getElem? hi) b hxb ?_
 cases hb; rfl
theorem St.mpoN (S:St w0 C w X L) (ek:κ→Value) (ev:ν→Value):St w0 C w X (mpo ek ev none ([]:List (κ×ν))::L):=S.addL' mpo_none fun b hb=>by cases hb
end
end Go.Fx
namespace Go.Fx
section
variable {ro:Option Nat}{P:Program}{full:Array Oper}{Q:Exit→Act→World→Prop}{n:Nat}{d:List Deferred}{e:Env}{w w0:World}{C:Nat→Prop}{X L:List Asr}
variable {rest:List Oper}{ty:TypeId}{ps:String}{af:Array Edge}
def bldOf (P:Program) (t:TypeId):Option (Array Value×Nat):=match P.info? t,P.underlying t with
 | some it,some (.array _ el)=>match it.zero,P.info? el with
   | some z,some ie=>some (z.cells,ie.size)
   | _,_=>none
 | _,_=>none
theorem p_bldA {t i s:Nat}{parts:Array (Nat×Operand)}{vals:List (Nat×Value)}{z cs:List Value} (hT:bldOf P t=some (z.toArray,s)) (hv:parts.toList.map (fun (i,x)=>(i,evn n e x))=vals) (hf:Instr.fill (fun i=>some (i*s,s)) z.toArray vals=some cs.toArray)
 (h:wpA ro P full Q rest (E n (upd e i (AG cs)) d) w):wpA ro P full Q (⟨some i,.build t parts,ty,ps,af,none⟩::rest) (E n e d) w:=by
 unfold bldOf at hT
 split at hT
 ·rename_i it m el h1 h2
  split at hT
  ·rename_i z' ie h3 h4
   injection hT with hT
   injection hT with e1 e2
   subst e2
   have hp:List.map (fun x=>(x.fst,evn n e x.snd)) parts.toList=vals:=hv
   refine op_val (v:=AG cs) rfl (fun _ h=>by cases h) ?_ h
   simp [execOp,Instr.build,zeroValue,typeInfo,h1,h3,run_und h2,sizeOf,h4,e1,hp,hf]
  ·cases hT
 ·cases hT
theorem two_second {j:Int} (h:inI j 2=true) (h0:(j==0)=false):j=1:=by
 have:=inI_spec h
 have:j≠0:=by simpa using h0
 omega
end
end Go.Fx
namespace Go.Fx
section
variable {ro:Option Nat}{P:Program}{full:Array Oper}{Q:Exit→Act→World→Prop}{n:Nat}{d:List Deferred}{e:Env}{w w0:World}{C:Nat→Prop}{X L:List Asr}
variable {rest:List Oper}{ty:TypeId}{ps:String}{af:Array Edge}
def fldTOf (P:Program) (t f:Nat):Option (Nat×TypeId):=match P.underlying t with
 | some (.struct fs)=>(fs[f]?).map fun fl=>(fl.offset,fl.type)
 | _=>none
theorem p_fieldV {t f i o ft:Nat}{x:Operand}{cs:List Value}{v:Value} (hT:fldTOf P t f=some (o,ft)) (hA:aggOf P ft=some false) (hx:evn n e x=AG cs) (hv:cs[o]? =some v)
 (h:wpA ro P full Q rest (E n (upd e i v) d) w):wpA ro P full Q (⟨some i,.field t x f,ty,ps,af,none⟩::rest) (E n e d) w:=by
 unfold fldTOf at hT
 split at hT
 ·rename_i fs hu
  obtain ⟨fl,h1,h2⟩:=Option.map_eq_some_iff.1 hT
  injection h2 with e1 e2
  subst e1 e2
  refine op_val (v:=v) rfl (fun _ h=>by cases h) ?_ h
  have hx' :evn n e x=.agg cs.toArray:=hx
  simp [execOp,Instr.field,run_und hu,h1,hx',asAgg,part,run_isAgg hA,hv]
 ·cases hT
end
end Go.Fx
namespace Go.Fx
open Go
section
variable {ro:Option Nat}{P:Program}{full:Array Oper}{Q:Exit→Act→World→Prop}{n:Nat}{d:List Deferred}{e:Env}{w w0:World}{C:Nat→Prop}{X L:List Asr}
variable {rest:List Oper}{ty:TypeId}{ps:String}{af:Array Edge}
end
end Go.Fx
namespace Go.Fx
open Go
section
variable {w0 w w' :World}{C:Nat→Prop}{X L:List Asr}
end
section
variable {ro:Option Nat}{P:Program}{full:Array Oper}{Q:Exit→Act→World→Prop}{n:Nat}{d:List Deferred}{e:Env}{w w0:World}{C:Nat→Prop}{X L:List Asr}
variable {rest:List Oper}{ty:TypeId}{ps:String}{af:Array Edge}
end
end Go.Fx
namespace Go.Fx
open Go
section
variable {κ ν:Type} [DecidableEq κ] {ek:κ→Value}{ev:ν→Value}
variable {ro:Option Nat}{P:Program}{full:Array Oper}{Q:Exit→Act→World→Prop}{n:Nat}{d:List Deferred}{e:Env}{w w0:World}{C:Nat→Prop}{X L:List Asr}
variable {rest:List Oper}{ty:TypeId}{ps:String}{af:Array Edge}
end
section
variable {ro:Option Nat}{P:Program}{n:Nat}{d:List Deferred}{w:World}{Q:Exit→Act→World→Prop}{CC:Nat→Prop}{Base:List Asr}{Ψ:World→Prop}
end
section
variable {ro:Option Nat}{P:Program}{full:Array Oper}{Q:Exit→Act→World→Prop}{n:Nat}{d:List Deferred}{e:Env}{w:World}
variable {rest:List Oper}{ty:TypeId}{ps:String}{af:Array Edge}
theorem p_ldF {t i b o k:Nat}{x:Operand}{cs:List Value}{ct:TypeId}{v:Value}{j:Int} (hT:aggOf P t=some false) (hw:w.heap[b]? =some (.cells cs.toArray ct)) (hj:j=(k:Int)) (hx:evn n e x=.pointer (some ⟨b,o+j.toNat*1,none⟩)) (hv:nth cs (o+k)=some v)
 (h:wpA ro P full Q rest (E n (upd e i v) d) w):wpA ro P full Q (⟨some i,.load t x,ty,ps,af,none⟩::rest) (E n e d) w:=by
 subst hj
 exact p_ld hT hw (by rw [hx]; simp) hv h
end
end Go.Fx
namespace Go.Tally
open Go Go.Fx
structure TC where
 (who fro to told unit under over:Int)
 deriving DecidableEq,Inhabited
def iE (x:Int):Value:=.int .i64 x
abbrev wr (x:Int):Int:=IntKind.i64.wrap x
def leastI (x:TC):Int:=wr (wr (x.told*x.unit) - x.over)
def mostI (x:TC):Int:=wr (wr (x.told*x.unit)+x.under)
def inR (a lo hi:Int):Bool:=decide (lo≤a)&&decide (a≤hi)
def sumU (l:List Int):Nat→Int
 | 0=>0
 | k+1=>wr (sumU l k+l.getD k 0)
def zeros:List Int:=List.replicate 9 0
def initO (start:Int) (k:Nat):List Int:=(List.range 9).map fun j=>if j < k∧(j:Int)≠start then 481 else 0
theorem initO_len (start:Int) (k:Nat):(initO start k).length=9:=by simp [initO]
theorem initO_zero (start:Int):initO start 0=zeros:=by simp [initO,zeros]; rfl
theorem initO_skip {start:Int}{k:Nat} (h:(k:Int)=start):initO start (k+1)=initO start k:=by
 unfold initO
 refine List.map_congr_left fun j _=>?_
 by_cases hj:j=k
 ·subst hj; simp [h]
 ·have:(j < k+1)↔(j < k):=by omega
  simp [this]
theorem initO_set {start:Int}{k:Nat} (h:(k:Int)≠start):(initO start k).set k 481=initO start (k+1):=by
 unfold initO
 refine List.ext_getElem (by simp) fun i h1 h2=>?_
 simp only [List.getElem_set,List.getElem_map,List.getElem_range]
 by_cases hi:k=i
 ·subst hi; simp [h]
 ·have:(i < k+1)↔(i < k):=by omega
  simp [hi,this]
abbrev Ent:=(Int×Int)×Int
def ents (l:List (Nat×Ent)):List Ent:=l.map (·.2)
def viol (o:List Int) (e:Ent):Bool:=decide (wr (o.getD e.1.1.toNat 0+e.2) < o.getD e.1.2.toNat 0)
def relax (s:List Int×Bool) (e:Ent):List Int×Bool:=
 if (e.1 != (-1,-1))&&viol s.1 e then (s.1.set e.1.2.toNat (wr (s.1.getD e.1.1.toNat 0+e.2)),true) else s
def relaxL (o:List Int) (l:List Ent):List Int×Bool:=l.foldl relax (o,false)
theorem relax_len (s:List Int×Bool) (e:Ent):(relax s e).1.length=s.1.length:=by
 unfold relax; split <;> simp
theorem relaxL_len (o:List Int) (l:List Ent):(relaxL o l).1.length=o.length:=by
 unfold relaxL
 suffices ∀ s:List Int×Bool,(l.foldl relax s).1.length=s.1.length from this _
 induction l with
 | nil=>intro s; rfl
 | cons e l ih=>intro s; rw [List.foldl_cons,ih,relax_len]
theorem relaxL_snoc (o:List Int) (l:List Ent) (e:Ent):relaxL o (l++[e])=relax (relaxL o l) e:=by simp [relaxL]
theorem relax_cond (s:List Int×Bool) (e:Ent):((e.1 != (-1,-1))&&viol s.1 e)=(!((e.1.1==(-1))&&(e.1.2==(-1)))&&decide (wr (s.1.getD e.1.1.toNat 0+e.2) < s.1.getD e.1.2.toNat 0)):=rfl
theorem relax_yes {s:List Int×Bool}{e:Ent} (h:(!((e.1.1==(-1))&&(e.1.2==(-1)))&&decide (wr (s.1.getD e.1.1.toNat 0+e.2) < s.1.getD e.1.2.toNat 0))=true):relax s e=(s.1.set e.1.2.toNat (wr (s.1.getD e.1.1.toNat 0+e.2)),true):=by
 unfold relax; rw [relax_cond,if_pos h]
theorem relax_no {s:List Int×Bool}{e:Ent} (h:(!((e.1.1==(-1))&&(e.1.2==(-1)))&&decide (wr (s.1.getD e.1.1.toNat 0+e.2) < s.1.getD e.1.2.toNat 0))=false):relax s e=s:=by
 unfold relax; rw [relax_cond,if_neg (by rw [h]; decide)]
theorem relaxL_map (o:List Int) (dn:List (Nat×Ent)) (y:Nat×Ent):relaxL o (ents (dn++[y]))=relax (relaxL o (ents dn)) y.2:=by
 unfold ents; rw [List.map_append]; exact relaxL_snoc _ _ _
theorem len_le:∀ (l1 l2:List Nat),l1.Nodup→(∀ x∈l1,x∈l2)→l1.length≤l2.length
 | [],_,_,_=>Nat.zero_le _
 | x::l1,l2,h,hs=>by
   have hx:=hs x (List.mem_cons_self ..)
   have ih:=len_le l1 (l2.erase x) (List.nodup_cons.1 h).2 fun y hy=>by
    have hne:y≠x:=fun e=>(List.nodup_cons.1 h).1 (e▸hy)
    exact (List.mem_erase_of_ne hne).2 (hs y (List.mem_cons_of_mem _ hy))
   have hl:=List.length_erase_of_mem hx
   have hp:=List.length_pos_of_mem hx
   simp only [List.length_cons]
   omega
theorem dn_snoc {κ ν:Type}{es dn:List (Nat×κ×ν)}{y:Nat×κ×ν} (h2:(dn.map (·.1)).Nodup) (hn:y.1 ∉ dn.map (·.1)):((dn++[y]).map (·.1)).Nodup:=by
 rw [List.map_append,List.nodup_append]
 refine ⟨h2,by simp,fun a ha b hb=>?_⟩
 simp at hb; subst hb
 exact fun h=>hn (h▸ha)
theorem dn_lt {κ ν:Type}{es dn:List (Nat×κ×ν)}{y:Nat×κ×ν} (h1:∀ y∈dn,y∈es) (h2:(dn.map (·.1)).Nodup) (hy:y∈es) (hn:y.1 ∉ dn.map (·.1)):es.length - (dn++[y]).length < es.length - dn.length:=by
 have:=len_le ((dn++[y]).map (·.1)) (es.map (·.1)) (dn_snoc (es:=es) h2 hn) fun x hx=>by
  obtain ⟨z,hz,rfl⟩:=List.mem_map.1 hx
  refine List.mem_map.2 ⟨z,?_,rfl⟩
  rcases List.mem_append.1 hz with h | h
  ·exact h1 z h
  ·rw [List.mem_singleton.1 h]; exact hy
 simp at this ⊢
 omega
theorem dn_mem {κ ν:Type}{es dn:List (Nat×κ×ν)}{y:Nat×κ×ν} (h1:∀ y∈dn,y∈es) (hy:y∈es):∀ z∈dn++[y],z∈es:=fun z hz=>by
 rcases List.mem_append.1 hz with h | h
 ·exact h1 z h
 ·rw [List.mem_singleton.1 h]; exact hy
def RoundR (l:List Ent) (o o' :List Int) (ch:Bool):Prop:=∃ p:List Ent,p.Perm l∧relaxL o p=(o',ch)
inductive RoundsR (start:Nat) (l:List Ent):Nat→List Int→Option (List Int)→Prop
 | stop {o}:RoundsR start l 0 o (some o)
 | calm {k o o'}:RoundR l o o' false→RoundsR start l (k+1) o (some o')
 | neg {k o o'}:RoundR l o o' true→o'.getD start 0 < 0→RoundsR start l (k+1) o none
 | go {k o o' r}:RoundR l o o' true→¬o'.getD start 0 < 0→RoundsR start l k o' r→RoundsR start l (k+1) o r
def FromR (t start:Int) (l:List Ent) (out:List Int) (r:Bool):Prop:=
 (RoundsR start.toNat l (t+2).toNat (initO start (t+1).toNat) none∧r=false∧out=zeros)∨
 ∃ o,RoundsR start.toNat l (t+2).toNat (initO start (t+1).toNat) (some o)∧((l.any (viol o)=true∧r=false∧out=zeros)∨(l.any (viol o)=false∧r=true∧out=o))
theorem ents_any (f:Ent→Bool) (dn:List (Nat×Ent)) (y:Nat×Ent):(ents (dn++[y])).any f=((ents dn).any f||f y.2):=by simp [ents]
theorem RoundsR_len {start:Nat}{l:List Ent}{k:Nat}{o:List Int}{r:Option (List Int)} (h:RoundsR start l k o r):∀ o',r=some o' →o'.length=o.length:=by
 induction h with
 | stop=>rintro _ ⟨⟩; rfl
 | calm hr=>
   rintro _ ⟨⟩
   obtain ⟨p,_,hp⟩:=hr
   have:=(relaxL_len _ p).symm.trans (congrArg (fun x:List Int×Bool=>x.1.length) hp)
   exact this.symm
 | neg _ _=>rintro _ ⟨⟩
 | go hr _ _ ih=>
   intro o' ho
   obtain ⟨p,_,hp⟩:=hr
   have:=(relaxL_len _ p).symm.trans (congrArg (fun x:List Int×Bool=>x.1.length) hp)
   exact (ih o' ho).trans this.symm
theorem FromR_len {t start:Int}{l:List Ent}{out:List Int}{r:Bool} (h:FromR t start l out r):out.length=9:=by
 rcases h with ⟨_,_,rfl⟩ | ⟨o,ho,h⟩
 ·rfl
 ·have:=(RoundsR_len ho o rfl).trans (initO_len _ _)
  rcases h with ⟨_,_,rfl⟩ | ⟨_,_,rfl⟩
  ·rfl
  ·exact this
def rightB (x:TC) (u:List Int):Bool:=inR (sumU ((u.take (x.to+1).toNat).drop x.fro.toNat) ((u.take (x.to+1).toNat).drop x.fro.toNat).length) (leastI x) (mostI x)
def KeysIn (t:Int) (m:List Ent):Prop:=∀ x∈m,0≤x.1.1∧x.1.1≤t∧0≤x.1.2∧x.1.2≤t
theorem done_perm0 {κ ν:Type}{es done:List (Nat×κ×ν)}{clock:Nat} (hs:Stamped es clock) (h1:∀ y∈done,y∈es) (h2:(done.map (·.1)).Nodup) (h3:∀ y∈es,y.1∈done.map (·.1)):(done.map (·.2)).Perm (es.map (·.2)):=by
 refine List.Perm.map _ ?_
 have inj:∀ {l:List (Nat×κ×ν)},(l.map (·.1)).Nodup→l.Nodup:=fun h=>List.Pairwise.of_map _ (fun _ _ h h' =>h (by rw [h'])) h
 have uniq:∀ {a b:Nat×κ×ν},a∈es→b∈es→a.1=b.1→a=b:=by
  intro a b ha hb hab
  obtain ⟨i,hi,rfl⟩:=List.getElem_of_mem ha
  obtain ⟨j,hj,rfl⟩:=List.getElem_of_mem hb
  have hp:=List.pairwise_iff_getElem.1 hs.1
  rcases Nat.lt_trichotomy i j with h | h | h
  ·exact absurd (by rw [List.getElem_map,List.getElem_map]; exact hab) (hp i j (by simpa using hi) (by simpa using hj) h)
  ·subst h; rfl
  ·exact absurd (by rw [List.getElem_map,List.getElem_map]; exact hab.symm) (hp j i (by simpa using hj) (by simpa using hi) h)
 have:∀ y∈es,y∈done:=fun y hy=>by
  obtain ⟨z,hz,hzy⟩:=List.mem_map.1 (h3 y hy)
  rwa [← uniq (h1 z hz) hy hzy]
 classical
 exact (List.perm_ext_iff_of_nodup (inj h2) (inj hs.1)).2 fun a=>⟨h1 a,this a⟩
theorem done_perm {es done:List (Nat×Ent)}{clock:Nat} (hs:Stamped es clock) (h1:∀ y∈done,y∈es) (h2:(done.map (·.1)).Nodup) (h3:∀ y∈es,y.1∈done.map (·.1)):(ents done).Perm (ents es):=done_perm0 hs h1 h2 h3
end Go.Tally
namespace Go.Fx
open Go
def foldO {σ α:Type} (f:σ→α→Option σ):List α→σ→Option σ
 | [],z=>some z
 | x::l,z=>(f z x).bind (foldO f l)
def Comm {σ α:Type} (f:σ→α→Option σ):Prop:=∀ z x y,(f z x).bind (f · y)=(f z y).bind (f · x)
theorem foldO_app {σ α:Type} (f:σ→α→Option σ):∀ (l m:List α) (z:σ),foldO f (l++m) z=(foldO f l z).bind (foldO f m)
 | [],m,z=>rfl
 | x::l,m,z=>by
   simp only [List.cons_append,foldO,Option.bind_assoc]
   congr 1
   funext y
   exact foldO_app f l m y
theorem foldO_perm {σ α:Type}{f:σ→α→Option σ} (hc:Comm f) {l m:List α} (p:l.Perm m):∀ z,foldO f l z=foldO f m z:=by
 induction p with
 | nil=>intro z; rfl
 | cons x _ ih=>
   intro z
   simp only [foldO]
   congr 1
   funext y
   exact ih y
 | swap x y l=>
   intro z
   simp only [foldO]
   rw [← Option.bind_assoc,← Option.bind_assoc,hc]
 | trans _ _ h1 h2=>intro z; exact (h1 z).trans (h2 z)
section
variable {ro:Option Nat}{P:Program}{Q:Exit→Act→World→Prop}{n:Nat}{d:List Deferred}{e:Env}{w w0:World}{C:Nat→Prop}{X L:List Asr}
variable {κ ν:Type}
theorem c_mapR {c:Code}{α β:Type}{f:α→κ×ν→Option α} (hc:Comm f) {es:List (Nat×κ×ν)}{l:List (κ×ν)}{clock:Nat} (he:es.map (·.2)=l) (hst:Stamped es clock) {zf:α} (x0:α) (y0:β) (H:foldO f l x0=some zf)
 (LL:α→β→List (Nat×Value)) (I:List (Nat×κ×ν)→α→β→World→Prop) (hL:Has e (LL x0 y0)) (h0:I [] x0 y0 w)
 (round:∀ (dn:List (Nat×κ×ν)) (z:α) (y:β) (g:Env) (w:World),(∀ x∈es,x.1 ∉ dn.map (·.1)→∃ z',f z x.2=some z')→((∀ x∈es,x.1∈dn.map (·.1))→z=zf)→I dn z y w→
  c.wpIn (Fr ro) 0 P (Exit.then (fun a w' =>∃ (x:Nat×κ×ν) (z' :α) (y' :β) (e' :Env),a=E n e' d∧Has e' (LL z' y')∧x∈es∧x.1 ∉ dn.map (·.1)∧f z x.2=some z' ∧I (dn++[x]) z' y' w') Q) (E n (ups g (LL z y)) d) w):
 (Code.loop c).wpIn (Fr ro) 0 P Q (E n e d) w:=by
 subst he
 refine c_loop (α:=List (Nat×κ×ν)×α×β) (fun q=>LL q.2.1 q.2.2) (fun q w=>(∀ y∈q.1,y∈es)∧(q.1.map (·.1)).Nodup∧foldO f (q.1.map (·.2)) x0=some q.2.1∧I q.1 q.2.1 q.2.2 w) (fun q=>es.length - q.1.length) ([],x0,y0) hL ⟨by simp,List.nodup_nil,rfl,h0⟩ ?_
 rintro ⟨dn,z,y⟩ g w ⟨h1,h2,h3,hI⟩
 refine wpIn_mono (round dn z y g w ?_ ?_ hI) ?_
 ·intro x hx hn
  have inj:∀ {l:List (Nat×κ×ν)},(l.map (·.1)).Nodup→l.Nodup:=fun h=>List.Pairwise.of_map _ (fun _ _ h h' =>h (by rw [h'])) h
  have hnd:es.Nodup:=inj hst.1
  have h2' :(dn++[x]).Nodup:=by
   refine inj ?_
   rw [List.map_append]
   refine List.nodup_append.2 ⟨h2,List.nodup_cons.2 ⟨by simp,List.nodup_nil⟩,?_⟩
   intro a ha b hb hab
   simp at hb
   subst hb; subst hab
   exact hn ha
  obtain ⟨t,ht⟩:∃ t,es.Perm ((dn++[x])++t):=by
   classical
   refine ⟨es.filter fun y=>decide (y ∉ dn++[x]),?_⟩
   refine (List.perm_ext_iff_of_nodup hnd ?_).2 fun a=>?_
   ·refine List.nodup_append.2 ⟨h2',hnd.filter _,?_⟩
    intro a ha b hb hab
    subst hab
    have:=(List.mem_filter.1 hb).2
    simp at this ha
    rcases ha with ha | ha
    ·exact this.1 ha
    ·exact this.2 ha
   ·constructor
    ·intro ha
     by_cases hd:a∈dn++[x]
     ·exact List.mem_append.2 (.inl hd)
     ·exact List.mem_append.2 (.inr (List.mem_filter.2 ⟨ha,by simpa using hd⟩))
    ·intro ha
     rcases List.mem_append.1 ha with ha | ha
     ·rcases List.mem_append.1 ha with ha | ha
      ·exact h1 a ha
      ·simp at ha; subst ha; exact hx
     ·exact (List.mem_filter.1 ha).1
  have hH:=H
  rw [foldO_perm hc (ht.map (·.2)),List.map_append,List.map_append,foldO_app,foldO_app,h3] at hH
  obtain ⟨b,hb,_⟩:=Option.bind_eq_some_iff.1 hH
  simp only [Option.bind_some,List.map_cons,List.map_nil,foldO] at hb
  obtain ⟨z',hz,_⟩:=Option.bind_eq_some_iff.1 hb
  exact ⟨z',hz⟩
 ·intro hall
  have hp:=Go.Tally.done_perm0 hst h1 h2 hall
  have:=foldO_perm hc hp x0
  rw [h3,H] at this
  exact Option.some.inj this
 ·intro ex a' w' hq
  cases ex with
  | normal=>
    obtain ⟨x,z',y',e',rfl,hh,hx,hn,hf,hI'⟩:=hq
    refine ⟨(dn++[x],z',y'),e',rfl,hh,⟨?_,?_,?_,hI'⟩,Go.Tally.dn_lt h1 h2 hx hn⟩
    ·intro y hy
     rcases List.mem_append.1 hy with h | h
     ·exact h1 y h
     ·simp at h; subst h; exact hx
    ·rw [List.map_append]
     refine List.nodup_append.2 ⟨h2,List.nodup_cons.2 ⟨by simp,List.nodup_nil⟩,?_⟩
     intro a ha b hb hab
     simp at hb
     subst hb; subst hab
     exact hn ha
    ·simp only [List.map_append,List.map_cons,List.map_nil]
     rw [foldO_app,h3]
     simp [foldO,hf]
  | exit id=>exact hq
  | goto l=>exact hq
  | ret=>exact hq
  | panic c=>exact hq
  | outgrown=>exact hq
theorem mpo_ne {ek:κ→Value}{ev:ν→Value}{mm:Option Nat}{l:List (κ×ν)}{w:World} (h:(mpo ek ev mm l).ok w) (hn:(!l.isEmpty)=true):∃ m,mm=some m:=by
 cases mm with
 | none=>have:l=[]:=h; subst this; cases hn
 | some m=>exact ⟨m,rfl⟩
theorem St.openM {ek:κ→Value}{ev:ν→Value}{m:Nat}{l:List (κ×ν)} (S:St w0 C w X L) {i:Nat} (hi:L[i]? =some (mpo ek ev (some m) l)):
 ∃ (es:List (Nat×κ×ν)) (clock:Nat),es.map (·.2)=l∧Stamped es clock∧St w0 C w X (bx m (mapO ek ev es clock)::L):=by
 have hm:=List.mem_of_getElem? hi
 obtain ⟨es,clock,h1,h2,h3⟩:=S.ps _ hm
 refine ⟨es,clock,h2,h3,S.keep,S.xs,?_,S.dx,?_,S.own⟩
 ·intro p hp
  rcases List.mem_cons.1 hp with rfl | h
  ·exact h1
  ·exact S.ps p h
 ·intro x hx p hp b hb hpb
  rcases List.mem_cons.1 hp with rfl | h
  ·have:b=m:=hpb
   subst this
   exact S.dp x hx _ hm b hb rfl
  ·exact S.dp x hx p h b hb hpb
end
end Go.Fx
namespace Go.Proofs.YtblfippmobpaaaaDoor
open Go Go.Fx Go.Proofs
theorem fl142_3:fldOf Tryd.prog 142 3=some 3:=by kernel_rfl
theorem ty3:aggOf Tryd.prog 3=some false:=by kernel_rfl
theorem fl142_4:fldOf Tryd.prog 142 4=some 4:=by kernel_rfl
theorem fl142_6:fldOf Tryd.prog 142 6=some 6:=by kernel_rfl
theorem fl142_5:fldOf Tryd.prog 142 5=some 5:=by kernel_rfl
theorem fl179_0:fldOf Tryd.prog 179 0=some 0:=by kernel_rfl
theorem fl179_1:fldOf Tryd.prog 179 1=some 1:=by kernel_rfl
theorem fl29_3:fldOf Tryd.prog 29 3=some 9:=by kernel_rfl
theorem ty26:aggOf Tryd.prog 26=some false:=by kernel_rfl
theorem sc26:slcOf Tryd.prog 26=some (59,3):=by kernel_rfl
theorem fu61:funOf Tryd.prog 61=true:=by kernel_rfl
theorem fl23_0:fldOf Tryd.prog 23 0=some 0:=by kernel_rfl
theorem fl23_1:fldOf Tryd.prog 23 1=some 1:=by kernel_rfl
theorem fl29_0:fldOf Tryd.prog 29 0=some 0:=by kernel_rfl
theorem ty23:aggOf Tryd.prog 23=some true:=by kernel_rfl
theorem sz23:sizOf Tryd.prog 23=some 2:=by kernel_rfl
theorem fu66:funOf Tryd.prog 66=true:=by kernel_rfl
theorem fl29_4:fldOf Tryd.prog 29 4=some 10:=by kernel_rfl
theorem fl29_5:fldOf Tryd.prog 29 5=some 12:=by kernel_rfl
theorem fl29_6:fldOf Tryd.prog 29 6=some 13:=by kernel_rfl
theorem ty27:aggOf Tryd.prog 27=some false:=by kernel_rfl
theorem sc27:slcOf Tryd.prog 27=some (75,3):=by kernel_rfl
theorem fl29_1:fldOf Tryd.prog 29 1=some 2:=by kernel_rfl
theorem ty24:aggOf Tryd.prog 24=some true:=by kernel_rfl
theorem sz24:sizOf Tryd.prog 24=some 4:=by kernel_rfl
theorem ae24:arrElOf Tryd.prog 24=some (2,23):=by kernel_rfl
theorem in23:infoOf Tryd.prog 23=some (some (Value.agg #[I 0,I 0]),2,16):=by kernel_rfl
theorem fl29_2:fldOf Tryd.prog 29 2=some 6:=by kernel_rfl
theorem ty25:aggOf Tryd.prog 25=some true:=by kernel_rfl
theorem sz25:sizOf Tryd.prog 25=some 3:=by kernel_rfl
theorem ae25:arrElOf Tryd.prog 25=some (3,3):=by kernel_rfl
theorem sz3:sizOf Tryd.prog 3=some 1:=by kernel_rfl
theorem ty59:aggOf Tryd.prog 59=some true:=by kernel_rfl
theorem sz59:sizOf Tryd.prog 59=some 3:=by kernel_rfl
theorem in59:infoOf Tryd.prog 59=some (some (Value.agg #[I 0,I 0,I 0]),3,24):=by kernel_rfl
theorem fl59_0:fldOf Tryd.prog 59 0=some 0:=by kernel_rfl
theorem fl59_1:fldOf Tryd.prog 59 1=some 1:=by kernel_rfl
theorem fl59_2:fldOf Tryd.prog 59 2=some 2:=by kernel_rfl
theorem ty75:aggOf Tryd.prog 75=some true:=by kernel_rfl
theorem sz75:sizOf Tryd.prog 75=some 3:=by kernel_rfl
theorem in75:infoOf Tryd.prog 75=some (some (Value.agg #[I 0,I 0,I 0]),3,24):=by kernel_rfl
theorem ty29:aggOf Tryd.prog 29=some true:=by kernel_rfl
theorem sz29:sizOf Tryd.prog 29=some 14:=by kernel_rfl
theorem fl75_0:fldOf Tryd.prog 75 0=some 0:=by kernel_rfl
theorem fu45:funOf Tryd.prog 45=true:=by kernel_rfl
theorem fl75_1:fldOf Tryd.prog 75 1=some 1:=by kernel_rfl
theorem fl75_2:fldOf Tryd.prog 75 2=some 2:=by kernel_rfl
theorem fu30:funOf Tryd.prog 30=true:=by kernel_rfl
theorem fu31:funOf Tryd.prog 31=true:=by kernel_rfl
theorem fu32:funOf Tryd.prog 32=true:=by kernel_rfl
theorem ar24:arrOf Tryd.prog 24=some (2,2):=by kernel_rfl
theorem in35:infoOf Tryd.prog 35=some (some (Value.agg #[I 0,I 0,Value.slice none 0 0]),3,40):=by kernel_rfl
theorem st35:strOf Tryd.prog 35=some (#[I 0,I 0,Value.slice none 0 0],#[(0,1),(1,1),(2,1)]):=by kernel_rfl
theorem sz35:sizOf Tryd.prog 35=some 3:=by kernel_rfl
theorem fl35_2:fldOf Tryd.prog 35 2=some 2:=by kernel_rfl
theorem ty33:aggOf Tryd.prog 33=some false:=by kernel_rfl
theorem st81:strOf Tryd.prog 81=some (#[I 0,I 0,I 0,I 0,I 0,I 0,I 0],#[(0,1),(1,1),(2,1),(3,1),(4,1),(5,1),(6,1)]):=by kernel_rfl
theorem zr81_1:zrow (Value.agg #[I 0,I 0,I 0,I 0,I 0,I 0,I 0]) (1*7)=#[I 0,I 0,I 0,I 0,I 0,I 0,I 0]:=by kernel_rfl
theorem sc33:slcOf Tryd.prog 33=some (81,7):=by kernel_rfl
theorem in81:infoOf Tryd.prog 81=some (some (Value.agg #[I 0,I 0,I 0,I 0,I 0,I 0,I 0]),7,56):=by kernel_rfl
theorem sz33:sizOf Tryd.prog 33=some 1:=by kernel_rfl
theorem ty35:aggOf Tryd.prog 35=some true:=by kernel_rfl
theorem fu69:funOf Tryd.prog 69=true:=by kernel_rfl
theorem fl35_0:fldOf Tryd.prog 35 0=some 0:=by kernel_rfl
theorem fl81_0:fldOf Tryd.prog 81 0=some 0:=by kernel_rfl
theorem fl81_1:fldOf Tryd.prog 81 1=some 1:=by kernel_rfl
theorem fl81_2:fldOf Tryd.prog 81 2=some 2:=by kernel_rfl
theorem fu49:funOf Tryd.prog 49=true:=by kernel_rfl
theorem fl81_3:fldOf Tryd.prog 81 3=some 3:=by kernel_rfl
theorem fl81_4:fldOf Tryd.prog 81 4=some 4:=by kernel_rfl
theorem fl81_5:fldOf Tryd.prog 81 5=some 5:=by kernel_rfl
theorem fl81_6:fldOf Tryd.prog 81 6=some 6:=by kernel_rfl
theorem fl35_1:fldOf Tryd.prog 35 1=some 1:=by kernel_rfl
theorem ty81:aggOf Tryd.prog 81=some true:=by kernel_rfl
theorem sz81:sizOf Tryd.prog 81=some 7:=by kernel_rfl
theorem fu70:funOf Tryd.prog 70=true:=by kernel_rfl
theorem sc42:slcOf Tryd.prog 42=some (3,1):=by kernel_rfl
theorem fl89_1:fldOf Tryd.prog 89 1=some 3:=by kernel_rfl
theorem ty87:aggOf Tryd.prog 87=some false:=by kernel_rfl
theorem ty141:aggOf Tryd.prog 141=some true:=by kernel_rfl
theorem sz141:sizOf Tryd.prog 141=some 2:=by kernel_rfl
theorem mt87:mptOf Tryd.prog 87=some (141,3):=by kernel_rfl
theorem in3:infoOf Tryd.prog 3=some (some (I 0),1,8):=by kernel_rfl
theorem zr3_1:zrow (I 0) (1*1)=#[I 0]:=by kernel_rfl
theorem fu88:funOf Tryd.prog 88=true:=by kernel_rfl
theorem in89:infoOf Tryd.prog 89=some (some (Value.agg #[I 0,I 0,Value.slice none 0 0,Value.map none]),4,48):=by kernel_rfl
theorem st89:strOf Tryd.prog 89=some (#[I 0,I 0,Value.slice none 0 0,Value.map none],#[(0,3),(3,1)]):=by kernel_rfl
theorem sz89:sizOf Tryd.prog 89=some 4:=by kernel_rfl
theorem ty89:aggOf Tryd.prog 89=some true:=by kernel_rfl
theorem st141:strOf Tryd.prog 141=some (#[I 0,I 0],#[(0,1),(1,1)]):=by kernel_rfl
theorem fu71:funOf Tryd.prog 71=true:=by kernel_rfl
theorem fl93_0:fldOf Tryd.prog 93 0=some 0:=by kernel_rfl
theorem ty91:aggOf Tryd.prog 91=some false:=by kernel_rfl
theorem in142:infoOf Tryd.prog 142=some (some (Value.agg #[I 0,I 0,I 0,I 0,I 0,I 0,I 0]),7,56):=by kernel_rfl
theorem sz142:sizOf Tryd.prog 142=some 7:=by kernel_rfl
theorem mixed:Tryd.prog.follows .mixedOrders=true:=by kernel_rfl
theorem fl142_1:fldOf Tryd.prog 142 1=some 1:=by kernel_rfl
theorem fl142_2:fldOf Tryd.prog 142 2=some 2:=by kernel_rfl
theorem ar144:arrOf Tryd.prog 144=some (2,1):=by kernel_rfl
theorem ty143:aggOf Tryd.prog 143=some false:=by kernel_rfl
theorem ty142:aggOf Tryd.prog 142=some true:=by kernel_rfl
theorem fu127:funOf Tryd.prog 127=true:=by kernel_rfl
theorem fu124:funOf Tryd.prog 124=true:=by kernel_rfl
theorem in93:infoOf Tryd.prog 93=some (some (Value.agg #[Value.nilFunc]),1,8):=by kernel_rfl
theorem st93:strOf Tryd.prog 93=some (#[Value.nilFunc],#[(0,1)]):=by kernel_rfl
theorem sz93:sizOf Tryd.prog 93=some 1:=by kernel_rfl
theorem ty93:aggOf Tryd.prog 93=some true:=by kernel_rfl
theorem in146:infoOf Tryd.prog 146=some (some (Value.agg #[I 0,I 0,I 0,I 0,I 0,I 0,I 0,I 0,I 0]),9,72):=by kernel_rfl
theorem ty146:aggOf Tryd.prog 146=some true:=by kernel_rfl
theorem sz146:sizOf Tryd.prog 146=some 9:=by kernel_rfl
theorem fu73:funOf Tryd.prog 73=true:=by kernel_rfl
theorem fu37:funOf Tryd.prog 37=true:=by kernel_rfl
theorem fu39:funOf Tryd.prog 39=true:=by kernel_rfl
theorem fu38:funOf Tryd.prog 38=true:=by kernel_rfl
theorem fu40:funOf Tryd.prog 40=true:=by kernel_rfl
theorem fu87:funOf Tryd.prog 87=true:=by kernel_rfl
theorem in84:infoOf Tryd.prog 84=some (some (Value.agg #[I 0,I 0,I 0,I 0,I 0,I 0,I 0,I 0,I 0,Value.slice none 0 0,I 0,I 0,I 0,Value.slice none 0 0,Value.map none]),15,152):=by kernel_rfl
theorem st84:strOf Tryd.prog 84=some (#[I 0,I 0,I 0,I 0,I 0,I 0,I 0,I 0,I 0,Value.slice none 0 0,I 0,I 0,I 0,Value.slice none 0 0,Value.map none],#[(0,14),(14,1)]):=by kernel_rfl
theorem sz84:sizOf Tryd.prog 84=some 15:=by kernel_rfl
theorem fl84_0:fldOf Tryd.prog 84 0=some 0:=by kernel_rfl
theorem sz27:sizOf Tryd.prog 27=some 1:=by kernel_rfl
theorem fu68:funOf Tryd.prog 68=true:=by kernel_rfl
theorem zr75_1:zrow (Value.agg #[I 0,I 0,I 0]) (1*3)=#[I 0,I 0,I 0]:=by kernel_rfl
theorem st137:strOf Tryd.prog 137=some (#[I 0,I 0],#[(0,1),(1,1)]):=by kernel_rfl
theorem in137:infoOf Tryd.prog 137=some (some (Value.agg #[I 0,I 0]),2,16):=by kernel_rfl
theorem sz137:sizOf Tryd.prog 137=some 2:=by kernel_rfl
theorem ty137:aggOf Tryd.prog 137=some true:=by kernel_rfl
theorem eq137:eqOk Tryd.prog 137 [.int .i64,.int .i64]:=⟨by kernel_rfl,by kernel_rfl,by kernel_rfl⟩
theorem fl84_1:fldOf Tryd.prog 84 1=some 14:=by kernel_rfl
theorem ty82:aggOf Tryd.prog 82=some false:=by kernel_rfl
theorem mt82:mptOf Tryd.prog 82=some (137,3):=by kernel_rfl
theorem ty84:aggOf Tryd.prog 84=some true:=by kernel_rfl
theorem in110:infoOf Tryd.prog 110=some (some (Value.agg #[I 0,I 0]),2,16):=by kernel_rfl
theorem ty110:aggOf Tryd.prog 110=some true:=by kernel_rfl
theorem sz110:sizOf Tryd.prog 110=some 2:=by kernel_rfl
theorem fu104:funOf Tryd.prog 104=true:=by kernel_rfl
theorem eq110:eqOk Tryd.prog 110 [.int .i64,.int .i64]:=⟨by kernel_rfl,by kernel_rfl,by kernel_rfl⟩
theorem ae110:arrElOf Tryd.prog 110=some (2,3):=by kernel_rfl
theorem fu105:funOf Tryd.prog 105=true:=by kernel_rfl
theorem ty150:aggOf Tryd.prog 150=some false:=by kernel_rfl
theorem ty113:aggOf Tryd.prog 113=some true:=by kernel_rfl
theorem sz113:sizOf Tryd.prog 113=some 15:=by kernel_rfl
theorem fl113_1:fldOf Tryd.prog 113 1=some 2:=by kernel_rfl
theorem fl113_0:fldOf Tryd.prog 113 0=some 0:=by kernel_rfl
theorem fu94:funOf Tryd.prog 94=true:=by kernel_rfl
theorem ty53:aggOf Tryd.prog 53=some false:=by kernel_rfl
theorem fu92:funOf Tryd.prog 92=true:=by kernel_rfl
theorem fl113_2:fldOf Tryd.prog 113 2=some 3:=by kernel_rfl
theorem ar111:arrOf Tryd.prog 111=some (6,1):=by kernel_rfl
theorem fl113_3:fldOf Tryd.prog 113 3=some 9:=by kernel_rfl
theorem ty167:aggOf Tryd.prog 167=some false:=by kernel_rfl
theorem fu93:funOf Tryd.prog 93=true:=by kernel_rfl
theorem in53:infoOf Tryd.prog 53=some (some (Value.nilFunc),1,8):=by kernel_rfl
theorem sz53:sizOf Tryd.prog 53=some 1:=by kernel_rfl
theorem in167:infoOf Tryd.prog 167=some (some (Value.nilFunc),1,8):=by kernel_rfl
theorem sz167:sizOf Tryd.prog 167=some 1:=by kernel_rfl
theorem fu78:funOf Tryd.prog 78=true:=by kernel_rfl
theorem ba110:bldOf Tryd.prog 110=some (#[I 0,I 0],1):=by kernel_rfl
theorem st113:strOf Tryd.prog 113=some (#[I 0,I 0,I 0,I 0,I 0,I 0,I 0,I 0,I 0,I 0,I 0,I 0,I 0,I 0,I 0],#[(0,2),(2,1),(3,6),(9,6)]):=by kernel_rfl
theorem fu79:funOf Tryd.prog 79=true:=by kernel_rfl
theorem in113:infoOf Tryd.prog 113=some (some (Value.agg #[I 0,I 0,I 0,I 0,I 0,I 0,I 0,I 0,I 0,I 0,I 0,I 0,I 0,I 0,I 0]),15,120):=by kernel_rfl
theorem fu91:funOf Tryd.prog 91=true:=by kernel_rfl
theorem fu90:funOf Tryd.prog 90=true:=by kernel_rfl
theorem in4:infoOf Tryd.prog 4=some (some (B false),1,1):=by kernel_rfl
theorem fu51:funOf Tryd.prog 51=true:=by kernel_rfl
theorem sz4:sizOf Tryd.prog 4=some 1:=by kernel_rfl
theorem fu77:funOf Tryd.prog 77=true:=by kernel_rfl
theorem ty4:aggOf Tryd.prog 4=some false:=by kernel_rfl
theorem fu35:funOf Tryd.prog 35=true:=by kernel_rfl
theorem fu36:funOf Tryd.prog 36=true:=by kernel_rfl
theorem fl103_0:fldOf Tryd.prog 103 0=some 0:=by kernel_rfl
theorem ty101:aggOf Tryd.prog 101=some false:=by kernel_rfl
theorem st23:strOf Tryd.prog 23=some (#[I 0,I 0],#[(0,1),(1,1)]):=by kernel_rfl
theorem in103:infoOf Tryd.prog 103=some (some (Value.agg #[Value.nilFunc]),1,8):=by kernel_rfl
theorem st103:strOf Tryd.prog 103=some (#[Value.nilFunc],#[(0,1)]):=by kernel_rfl
theorem sz103:sizOf Tryd.prog 103=some 1:=by kernel_rfl
theorem ty103:aggOf Tryd.prog 103=some true:=by kernel_rfl
theorem fu44:funOf Tryd.prog 44=true:=by kernel_rfl
theorem fu47:funOf Tryd.prog 47=true:=by kernel_rfl
theorem fu46:funOf Tryd.prog 46=true:=by kernel_rfl
theorem fu76:funOf Tryd.prog 76=true:=by kernel_rfl
theorem eq146:eqOk Tryd.prog 146 [.int .i64,.int .i64,.int .i64,.int .i64,.int .i64,.int .i64,.int .i64,.int .i64,.int .i64]:=⟨by kernel_rfl,by kernel_rfl,by kernel_rfl⟩
theorem ar146:arrOf Tryd.prog 146=some (9,1):=by kernel_rfl
theorem fu48:funOf Tryd.prog 48=true:=by kernel_rfl
theorem fu50:funOf Tryd.prog 50=true:=by kernel_rfl
theorem fu18:funOf Tryd.prog 18=true:=by kernel_rfl
theorem in29:infoOf Tryd.prog 29=some (some (Value.agg #[I 0,I 0,I 0,I 0,I 0,I 0,I 0,I 0,I 0,Value.slice none 0 0,I 0,I 0,I 0,Value.slice none 0 0]),14,144):=by kernel_rfl
theorem st59:strOf Tryd.prog 59=some (#[I 0,I 0,I 0],#[(0,1),(1,1),(2,1)]):=by kernel_rfl
theorem fu21:funOf Tryd.prog 21=true:=by kernel_rfl
theorem ba25:bldOf Tryd.prog 25=some (#[I 0,I 0,I 0],1):=by kernel_rfl
theorem zr59_3:zrow (Value.agg #[I 0,I 0,I 0]) (3*3)=#[I 0,I 0,I 0,I 0,I 0,I 0,I 0,I 0,I 0]:=by kernel_rfl
theorem st29:strOf Tryd.prog 29=some (#[I 0,I 0,I 0,I 0,I 0,I 0,I 0,I 0,I 0,Value.slice none 0 0,I 0,I 0,I 0,Value.slice none 0 0],#[(0,2),(2,4),(6,3),(9,1),(10,2),(12,1),(13,1)]):=by kernel_rfl
theorem fl63_0:fldOf Tryd.prog 63 0=some 0:=by kernel_rfl
theorem ty60:aggOf Tryd.prog 60=some false:=by kernel_rfl
theorem sc60:slcOf Tryd.prog 60=some (79,4):=by kernel_rfl
theorem fu52:funOf Tryd.prog 52=true:=by kernel_rfl
theorem fl63_4:fldOf Tryd.prog 63 4=some 4:=by kernel_rfl
theorem ty63:aggOf Tryd.prog 63=some true:=by kernel_rfl
theorem sz63:sizOf Tryd.prog 63=some 5:=by kernel_rfl
theorem fl115_0:fldOf Tryd.prog 115 0=some 0:=by kernel_rfl
theorem fu58:funOf Tryd.prog 58=true:=by kernel_rfl
theorem fl115_1:fldOf Tryd.prog 115 1=some 1:=by kernel_rfl
theorem fu59:funOf Tryd.prog 59=true:=by kernel_rfl
theorem fl115_2:fldOf Tryd.prog 115 2=some 2:=by kernel_rfl
theorem fl115_3:fldOf Tryd.prog 115 3=some 3:=by kernel_rfl
theorem fl63_3:fldOf Tryd.prog 63 3=some 3:=by kernel_rfl
theorem fl63_1:fldOf Tryd.prog 63 1=some 1:=by kernel_rfl
theorem ty42:aggOf Tryd.prog 42=some false:=by kernel_rfl
theorem fl63_2:fldOf Tryd.prog 63 2=some 2:=by kernel_rfl
theorem ty61:aggOf Tryd.prog 61=some false:=by kernel_rfl
theorem sc61:slcOf Tryd.prog 61=some (115,4):=by kernel_rfl
theorem ty79:aggOf Tryd.prog 79=some true:=by kernel_rfl
theorem sz79:sizOf Tryd.prog 79=some 4:=by kernel_rfl
theorem in79:infoOf Tryd.prog 79=some (some (Value.agg #[I 0,I 0,I 0,I 0]),4,32):=by kernel_rfl
theorem fl79_0:fldOf Tryd.prog 79 0=some 0:=by kernel_rfl
theorem fu53:funOf Tryd.prog 53=true:=by kernel_rfl
theorem fl79_1:fldOf Tryd.prog 79 1=some 2:=by kernel_rfl
theorem ty115:aggOf Tryd.prog 115=some true:=by kernel_rfl
theorem sz115:sizOf Tryd.prog 115=some 4:=by kernel_rfl
theorem in115:infoOf Tryd.prog 115=some (some (Value.agg #[I 0,I 0,I 0,I 0]),4,32):=by kernel_rfl
theorem fu54:funOf Tryd.prog 54=true:=by kernel_rfl
theorem fu95:funOf Tryd.prog 95=true:=by kernel_rfl
theorem in128:infoOf Tryd.prog 128=some (some (Value.agg #[I 0,I 0,I 0,I 0]),4,32):=by kernel_rfl
theorem ty128:aggOf Tryd.prog 128=some true:=by kernel_rfl
theorem sz128:sizOf Tryd.prog 128=some 4:=by kernel_rfl
theorem fl120_0:fldOf Tryd.prog 120 0=some 0:=by kernel_rfl
theorem fu101:funOf Tryd.prog 101=true:=by kernel_rfl
theorem eq128:eqOk Tryd.prog 128 [.int .i64,.int .i64,.int .i64,.int .i64]:=⟨by kernel_rfl,by kernel_rfl,by kernel_rfl⟩
theorem ty120:aggOf Tryd.prog 120=some true:=by kernel_rfl
theorem sz120:sizOf Tryd.prog 120=some 7:=by kernel_rfl
theorem fu102:funOf Tryd.prog 102=true:=by kernel_rfl
theorem ar128:arrOf Tryd.prog 128=some (4,1):=by kernel_rfl
theorem in174:infoOf Tryd.prog 174=some (some (Value.agg #[Value.nilFunc]),1,8):=by kernel_rfl
theorem st174:strOf Tryd.prog 174=some (#[Value.nilFunc],#[(0,1)]):=by kernel_rfl
theorem sz174:sizOf Tryd.prog 174=some 1:=by kernel_rfl
theorem ty174:aggOf Tryd.prog 174=some true:=by kernel_rfl
theorem fl120_1:fldOf Tryd.prog 120 1=some 5:=by kernel_rfl
theorem ty117:aggOf Tryd.prog 117=some false:=by kernel_rfl
theorem mt117:mptOf Tryd.prog 117=some (155,23):=by kernel_rfl
theorem in155:infoOf Tryd.prog 155=some (some (Value.agg #[I 0,I 0]),2,16):=by kernel_rfl
theorem sz155:sizOf Tryd.prog 155=some 2:=by kernel_rfl
theorem ty155:aggOf Tryd.prog 155=some true:=by kernel_rfl
theorem eq155:eqOk Tryd.prog 155 [.int .i64,.int .i64]:=⟨by kernel_rfl,by kernel_rfl,by kernel_rfl⟩
theorem fl155_0:fldOf Tryd.prog 155 0=some 0:=by kernel_rfl
theorem fl155_1:fldOf Tryd.prog 155 1=some 1:=by kernel_rfl
theorem fu83:funOf Tryd.prog 83=true:=by kernel_rfl
theorem fu80:funOf Tryd.prog 80=true:=by kernel_rfl
theorem fu100:funOf Tryd.prog 100=true:=by kernel_rfl
theorem ft174_0:fldTOf Tryd.prog 174 0=some (0,172):=by kernel_rfl
theorem ty172:aggOf Tryd.prog 172=some false:=by kernel_rfl
theorem fu107:funOf Tryd.prog 107=true:=by kernel_rfl
theorem fu99:funOf Tryd.prog 99=true:=by kernel_rfl
theorem fu106:funOf Tryd.prog 106=true:=by kernel_rfl
theorem st131:strOf Tryd.prog 131=some (#[I 0,I 0,I 0,I 0,I 0,I 0,I 0,I 0,I 0,I 0,I 0,I 0],#[(0,4),(4,8)]):=by kernel_rfl
theorem in131:infoOf Tryd.prog 131=some (some (Value.agg #[I 0,I 0,I 0,I 0,I 0,I 0,I 0,I 0,I 0,I 0,I 0,I 0]),12,96):=by kernel_rfl
theorem sz131:sizOf Tryd.prog 131=some 12:=by kernel_rfl
theorem ty170:aggOf Tryd.prog 170=some false:=by kernel_rfl
theorem fu97:funOf Tryd.prog 97=true:=by kernel_rfl
theorem fl131_1:fldOf Tryd.prog 131 1=some 4:=by kernel_rfl
theorem ar129:arrOf Tryd.prog 129=some (4,2):=by kernel_rfl
theorem ty169:aggOf Tryd.prog 169=some false:=by kernel_rfl
theorem ty131:aggOf Tryd.prog 131=some true:=by kernel_rfl
theorem ty171:aggOf Tryd.prog 171=some false:=by kernel_rfl
theorem fu98:funOf Tryd.prog 98=true:=by kernel_rfl
theorem in170:infoOf Tryd.prog 170=some (some (Value.nilFunc),1,8):=by kernel_rfl
theorem sz170:sizOf Tryd.prog 170=some 1:=by kernel_rfl
theorem in171:infoOf Tryd.prog 171=some (some (Value.nilFunc),1,8):=by kernel_rfl
theorem sz171:sizOf Tryd.prog 171=some 1:=by kernel_rfl
theorem in120:infoOf Tryd.prog 120=some (some (Value.agg #[Value.slice none 0 0,Value.slice none 0 0,Value.slice none 0 0,I 0,I 0,Value.map none,Value.slice none 0 0]),7,120):=by kernel_rfl
theorem st120:strOf Tryd.prog 120=some (#[Value.slice none 0 0,Value.slice none 0 0,Value.slice none 0 0,I 0,I 0,Value.map none,Value.slice none 0 0],#[(0,5),(5,1),(6,1)]):=by kernel_rfl
theorem st155:strOf Tryd.prog 155=some (#[I 0,I 0],#[(0,1),(1,1)]):=by kernel_rfl
theorem fu81:funOf Tryd.prog 81=true:=by kernel_rfl
theorem fl120_2:fldOf Tryd.prog 120 2=some 6:=by kernel_rfl
theorem ty118:aggOf Tryd.prog 118=some false:=by kernel_rfl
theorem zr131_1:zrow (Value.agg #[I 0,I 0,I 0,I 0,I 0,I 0,I 0,I 0,I 0,I 0,I 0,I 0]) (1*12)=#[I 0,I 0,I 0,I 0,I 0,I 0,I 0,I 0,I 0,I 0,I 0,I 0]:=by kernel_rfl
theorem sc118:slcOf Tryd.prog 118=some (131,12):=by kernel_rfl
theorem sz118:sizOf Tryd.prog 118=some 1:=by kernel_rfl
theorem fu96:funOf Tryd.prog 96=true:=by kernel_rfl
theorem fu23:funOf Tryd.prog 23=true:=by kernel_rfl
theorem fu55:funOf Tryd.prog 55=true:=by kernel_rfl
theorem fu85:funOf Tryd.prog 85=true:=by kernel_rfl
theorem fl131_0:fldOf Tryd.prog 131 0=some 0:=by kernel_rfl
theorem fu63:funOf Tryd.prog 63=true:=by kernel_rfl
theorem ar178:arrOf Tryd.prog 178=some (2,1):=by kernel_rfl
theorem ty177:aggOf Tryd.prog 177=some false:=by kernel_rfl
theorem fu60:funOf Tryd.prog 60=true:=by kernel_rfl
theorem fu125:funOf Tryd.prog 125=true:=by kernel_rfl
theorem fu128:funOf Tryd.prog 128=true:=by kernel_rfl
theorem fu57:funOf Tryd.prog 57=true:=by kernel_rfl
theorem fu86:funOf Tryd.prog 86=true:=by kernel_rfl
theorem fu67:funOf Tryd.prog 67=true:=by kernel_rfl
theorem st75:strOf Tryd.prog 75=some (#[I 0,I 0,I 0],#[(0,1),(1,1),(2,1)]):=by kernel_rfl
theorem zr75_2:zrow (Value.agg #[I 0,I 0,I 0]) (2*3)=#[I 0,I 0,I 0,I 0,I 0,I 0]:=by kernel_rfl
theorem fu33:funOf Tryd.prog 33=true:=by kernel_rfl
theorem fu15:funOf Tryd.prog 15=true:=by kernel_rfl
theorem fu8:funOf Tryd.prog 8=true:=by kernel_rfl
theorem fu16:funOf Tryd.prog 16=true:=by kernel_rfl
theorem fu17:funOf Tryd.prog 17=true:=by kernel_rfl
theorem st79:strOf Tryd.prog 79=some (#[I 0,I 0,I 0,I 0],#[(0,2),(2,2)]):=by kernel_rfl
theorem zr79_1:zrow (Value.agg #[I 0,I 0,I 0,I 0]) (1*4)=#[I 0,I 0,I 0,I 0]:=by kernel_rfl
theorem st63:strOf Tryd.prog 63=some (#[Value.slice none 0 0,Value.slice none 0 0,Value.slice none 0 0,I 0,I 0],#[(0,1),(1,1),(2,1),(3,1),(4,1)]):=by kernel_rfl
theorem fu34:funOf Tryd.prog 34=true:=by kernel_rfl
theorem fu11:funOf Tryd.prog 11=true:=by kernel_rfl
theorem eq23:eqOk Tryd.prog 23 [.int .i64,.int .i64]:=⟨by kernel_rfl,by kernel_rfl,by kernel_rfl⟩
theorem sz26:sizOf Tryd.prog 26=some 1:=by kernel_rfl
theorem zr59_1:zrow (Value.agg #[I 0,I 0,I 0]) (1*3)=#[I 0,I 0,I 0]:=by kernel_rfl
theorem ty95:aggOf Tryd.prog 95=some false:=by kernel_rfl
theorem fu41:funOf Tryd.prog 41=true:=by kernel_rfl
theorem in95:infoOf Tryd.prog 95=some (some (Value.nilFunc),1,8):=by kernel_rfl
theorem sz95:sizOf Tryd.prog 95=some 1:=by kernel_rfl
theorem fu5:funOf Tryd.prog 5=true:=by kernel_rfl
theorem fu6:funOf Tryd.prog 6=true:=by kernel_rfl
theorem fu9:funOf Tryd.prog 9=true:=by kernel_rfl
theorem fu10:funOf Tryd.prog 10=true:=by kernel_rfl
theorem fu12:funOf Tryd.prog 12=true:=by kernel_rfl
theorem ub4:Tryd.prog.underlying 4=some .bool:=by kernel_rfl
theorem fu14:funOf Tryd.prog 14=true:=by kernel_rfl
theorem in63:infoOf Tryd.prog 63=some (some (Value.agg #[Value.slice none 0 0,Value.slice none 0 0,Value.slice none 0 0,I 0,I 0]),5,88):=by kernel_rfl
theorem st115:strOf Tryd.prog 115=some (#[I 0,I 0,I 0,I 0],#[(0,1),(1,1),(2,1),(3,1)]):=by kernel_rfl
theorem zr115_1:zrow (Value.agg #[I 0,I 0,I 0,I 0]) (1*4)=#[I 0,I 0,I 0,I 0]:=by kernel_rfl
theorem sz61:sizOf Tryd.prog 61=some 1:=by kernel_rfl
theorem ft120_2:fldTOf Tryd.prog 120 2=some (6,118):=by kernel_rfl
theorem fu56:funOf Tryd.prog 56=true:=by kernel_rfl
theorem ar110:arrOf Tryd.prog 110=some (2,1):=by kernel_rfl
theorem fu62:funOf Tryd.prog 62=true:=by kernel_rfl
theorem ft23_0:fldTOf Tryd.prog 23 0=some (0,3):=by kernel_rfl
theorem fu65:funOf Tryd.prog 65=true:=by kernel_rfl
theorem fu22:funOf Tryd.prog 22=true:=by kernel_rfl
theorem ar56:arrOf Tryd.prog 56=some (2,1):=by kernel_rfl
theorem fu24:funOf Tryd.prog 24=true:=by kernel_rfl
theorem fu25:funOf Tryd.prog 25=true:=by kernel_rfl
theorem fu26:funOf Tryd.prog 26=true:=by kernel_rfl
theorem fu27:funOf Tryd.prog 27=true:=by kernel_rfl
theorem fu28:funOf Tryd.prog 28=true:=by kernel_rfl
theorem fu29:funOf Tryd.prog 29=true:=by kernel_rfl
abbrev gW0:Asr:=bl 0 [I (-1),I (-1)] 137
abbrev gW1:Asr:=bl 1 [Value.func (.func 124) #[] #[],Value.func (.func 127) #[] #[]] 144
abbrev gW2:Asr:=bl 2 [I (-1),I (-1)] 155
abbrev gW3:Asr:=bl 3 [I (-1),I (-1)] 141
abbrev gW4:Asr:=bl 4 [Value.func (.func 125) #[] #[],Value.func (.func 128) #[] #[]] 178
theorem rQ {a b:Nat→Nat→Prop}{Q:Prop} (h:∃ lo hi,a lo hi∧b lo hi∧Q):Q:=by
 obtain ⟨_,_,_,_,h⟩:=h
 exact h
theorem lE {n m:Nat} (h:Nat.ble n m=true):n≤m:=Nat.le_of_ble_eq_true h
theorem rT {P:Program} (fn:Func) {n:Nat}{e:Env}{w w0:World}{t:Nat}{v:Value} (k:Keep0 w0 w) (hf:fn.results=#[.tmp t]) (h:evn n e (.tmp t)=v):bodyPostM (Fr none) 0 P fn (RetV w0 v) .ret (E n e []) w:=ret_of (res1 hf (rvT h)) ⟨_,rfl,rfl,k⟩
theorem dF {ro:Option Nat}{P:Program}{full:Array Oper}{n:Nat}{d:List Deferred}{w:World}{i:Nat}{op:Op}{ty:TypeId}{ps:String}{af:Array Edge}{j s:Nat}{want:Bool}{os:List Oper}{e:Env}{K:Env→Prop} (hj:(full[j]?).bind (·.dst)=some s) (hs:evn n e (.tmp s)=.bool (!want)) (hk:DSk ro P full n d w os (updo e (some i) undef) K):DSk ro P full n d w (⟨some i,op,ty,ps,af,some (j,want)⟩::os) e K:=dS (fun _ _=>gF hj hs dnU) hk
theorem bE (b:Bool):b=true∨b=false:=Bool.eq_false_or_eq_true b
theorem sJ {α:Type}{a b:α} (h:some a=some b):a=b:=Option.some.inj h
theorem mE {α:Type}{l:List α}{i:Nat}{a:α} (h:l[i]? =some a):a∈l:=List.mem_of_getElem? h
abbrev aS:=@Asr.stays
theorem kR {C:Nat→Prop}{w:World}:Keep C w w:=Keep.refl _ _
theorem nE {α:Type}{a:α}{p:Prop} (h:a∈([]:List α)):p:=(List.not_mem_nil h).elim
abbrev bL:=@BtwL.of
abbrev vF:=@Value.func
abbrev nF:Nat→Prop:=fun _=>False
end Go.Proofs.YtblfippmobpaaaaDoor