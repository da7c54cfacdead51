/-
  Part 8 of 10.
-/
import Derived.Test.YtodgemainhokjaaSp7
import Derived.Test.YtodgemainhokjaaSp2
import Derived.Test.YtodgemainhokjaaSp3
import Derived.Conc.WgGenN2
set_option linter.unusedVariables false
set_option linter.unusedSimpArgs false
namespace Go.Proofs.Ytodgemainhokjaa
open Go Go.PB
attribute [local irreducible] Mo Bin Eql Tr Wo Ap Wle
attribute [local instance] Pass.of_no
section
def thC1 (y:TH):Value:=.slice y.2.1 y.2.2.2.length y.2.2.1
def hs_ (y:TH):HProp:=codeC (cwD y.2.1 y.2.2.1 y.2.2.2) (y.2.2.2.map (·.2.2.2))
def bnr (n:Nat) (rs:List RW) (ts:List TH):Prop:=∀ (i:Nat) t y,ts[i]?=some t→rs[i]?=some y→t.2.2.2.map (·.2.2.2)=fz_ n y.2.2
def rpFix (rb p8 gt wb gb r n:Nat) (ws:List Nat) (wv qv ov:Value) (rs:List RW) (ord:List Int) (L:List HProp):List HProp :=
 arr gt 0 [.slice (some ⟨gb,0,none⟩) rs.length rs.length]::arr gb 0 (zeros rs.length [.slice none 0 0])::vec 1 ov (intC ord)::arr p8 0 [qv]::vec 1 qv (rs.map rv)::arr rb 0 [.pointer (some ⟨r,0,none⟩)]::sC r n (recF ws 0) ::
  arr wb 0 [wv]::vec 1 wv (ws.map num)::L
def rpOut (rb p8 gt wb gb r n:Nat) (ws:List Nat) (wv qv ov:Value) (rs:List RW) (ord:List Int) (L:List HProp):PB.Inv (Nat × Nat × Value × Value × List TH) MX where
 e:=fun i=>[(3,.pointer (some ⟨wb,0,none⟩)),(4,.pointer (some ⟨rb,0,none⟩)),(6,.pointer (some ⟨p8,0,none⟩)),(7,ov),(8,.pointer (some ⟨gt,0,none⟩)),(9,i.2.2.2.1),(10,i.2.2.1),(11,.pointer (some ⟨i.2.1,0,none⟩))]
 L:=fun i=>arr i.2.1 0 [.int .i64 (i.1:Nat)]::vec 1 i.2.2.1 (i.2.2.2.2.map (rpF p8 rb gt wb))::vec 1 i.2.2.2.1 (i.2.2.2.2.map thC1)::all (boxes i.2.2.2.2)::all (i.2.2.2.2.map hs_)::rpFix rb p8 gt wb gb r n ws wv qv ov rs ord L
 x:=fun _=>.idle
 ok:=fun i=>i.1≤rs.length∧i.2.2.2.2.length=i.1∧bnr n rs i.2.2.2.2
def rpIn (rb p8 gt wb gb r n i ib:Nat) (ws:List Nat) (wv qv ov tv cv:Value) (rs:List RW) (ord:List Int) (ts:List TH) (row:List SE) (L:List HProp):PB.Inv (Nat × Value × List CD) MX where
 e:=fun k=>[(3,.pointer (some ⟨wb,0,none⟩)),(4,.pointer (some ⟨rb,0,none⟩)),(6,.pointer (some ⟨p8,0,none⟩)),(7,ov),(8,.pointer (some ⟨gt,0,none⟩)),(9,cv),(10,tv),(11,.pointer (some ⟨ib,0,none⟩)),(12,k.2.1),(13,.int .i64 (k.1:Nat))]
 L:=fun k=>vec 2 k.2.1 (k.2.2.map cdV).flatten::all (k.2.2.map cdK)::arr ib 0 [.int .i64 (i:Nat)]::vec 1 tv (ts.map (rpF p8 rb gt wb))::vec 1 cv (ts.map thC1)::all (boxes ts)::all (ts.map hs_)::rpFix rb p8 gt wb gb r n ws wv qv ov rs ord L
 x:=fun _=>.idle
 ok:=fun k=>k.1≤row.length∧k.2.2.length=k.1∧k.2.2.map (·.2.2.2)=(fz_ n row).take k.1
theorem cw_ {L:List HProp}:∀ (M:List HProp) {b o:Nat} {v:Value},Rd L b o v→Rd (M++L) b o v
 | [],b,o,v,h=>h
 | c::M,b,o,v,h=>.there (cw_ M h)
theorem wj_ {L:List HProp} (M:List HProp) {a:Option Addr} {n:Nat} {vs:List Value} (h:RdsO L a n vs):RdsO (M++L) a n vs :=
 ⟨h.1,h.2.imp id fun ⟨b,o,e,r⟩=>⟨b,o,e,fun i v hi=>cw_ M (r i v hi)⟩⟩
theorem cbn {L:List HProp} (M:List HProp) {a:Option Addr} {rs:List RW} (h:ThsAt L a rs):ThsAt (M++L) a rs:=fun i y hy=>by
 obtain ⟨b,o,e,h1,h2,h3⟩:=h i y hy
 refine ⟨b,o,e,cw_ M h1,⟨h2.rng,fun j z hz=>?_⟩,h3⟩
 obtain ⟨b',o',e',r1,r2⟩:=h2.at_ j z hz
 exact ⟨b',o',e',fun m v hm=>cw_ M (r1 m v hm),wj_ M r2⟩
theorem cpv {L:List HProp} {a:Option Addr} {rs:List RW} (h:ThsAt L a rs):∀ (i:Nat) y,(fewR rs)[i]?=some y→DoAt L y.1 y.2.2∧y.2.2.length≤6:=by
 intro i y hy
 unfold fewR at hy
 split at hy
 ·have:y=(none,0,[]):=by
   have:=List.mem_of_getElem? hy
   simpa using this
  subst this
  exact ⟨⟨fun z hz=>by simp at hz,fun j z hz=>by simp at hz⟩,by simp⟩
 ·rw [List.getElem?_map,Option.map_eq_some_iff] at hy
  obtain ⟨z,hz,rfl⟩:=hy
  rw [List.getElem?_take] at hz
  split at hz
  ·obtain ⟨b,o,_,_,hd,_⟩:=h i z hz
   refine ⟨⟨fun w hw=>hd.rng w (List.mem_of_mem_take hw),fun j w hw=>?_⟩,by simp only [cutR,List.length_take];omega⟩
   simp only [cutR,List.getElem?_take] at hw
   split at hw
   ·exact hd.at_ j w hw
   ·cases hw
  ·cases hz
theorem bqz {ts:List TH} {t:TH}:boxes (ts++[t])=boxes ts++[arr t.1 0 [.int .i64 (ts.length:Nat)]]:=by
 unfold boxes
 rw [List.mapIdx_append]
 simp
theorem bhk {n:Nat} {rs:List RW} {ts:List TH} {t:TH} {y:RW} (h:bnr n rs ts) (hy:rs[ts.length]?=some y) (ht:t.2.2.2.map (·.2.2.2)=fz_ n y.2.2):bnr n rs (ts++[t]):=fun i u z hu hz=>by
 by_cases hi:i<ts.length
 ·rw [List.getElem?_append_left hi] at hu
  exact h i u z hu hz
 ·rw [List.getElem?_append_right (by omega)] at hu
  have hlt:=(List.getElem?_eq_some_iff.1 hu).1
  simp only [List.length_cons,List.length_nil] at hlt
  obtain rfl:i=ts.length:=by omega
  rw [Nat.sub_self] at hu
  cases hu
  rw [hy] at hz
  cases hz
  exact ht
def ccK (ts:List TH):Calls:=ts.map fun t=>(cwD t.2.1 t.2.2.1 t.2.2.2,t.2.2.2.map (·.2.2.2))
theorem bxw {ts:List TH}:(ccK ts).map (·.2)=ccOf ts:=by
 simp only [ccK,ccOf,List.map_map];rfl
theorem ccK_v {ts:List TH}:(ccK ts).map cvK=ts.map thC1:=by
 simp only [ccK,List.map_map]
 apply List.map_congr_left
 intro t _
 show Value.slice t.2.1 (t.2.2.2.map (·.2.2.2)).length t.2.2.1=Value.slice t.2.1 t.2.2.2.length t.2.2.1
 rw [List.length_map]
theorem cfk {n:Nat} {ts:List TH} {F:List HProp} (hn:n≤16) (hl:ts.length<1000) (hc:∀ t∈ts,ju_ n (t.2.2.2.map (·.2.2.2))) (h16:∀ t∈ts,t.2.2.2.length<1000000):CallsOk (all (ts.map hs_)::F) (ccK ts) where
 n:=by simpa [ccK] using hl
 obs:=fun y hy h s=>by
  obtain ⟨t,ht,rfl⟩:=List.mem_map.1 hy
  obtain ⟨i,hi⟩:=List.mem_iff_getElem?.1 ht
  obtain ⟨R,hR⟩:=star_pick (M:=ts.map hs_) (i:=i) (c:=hs_ t) (by rw [List.getElem?_map,hi];rfl) (bq_ s)
  obtain ⟨h1,h2,sp,hc1,_⟩:=hR
  exact bdp sp hc1
 ok:=fun y hy=>by
  obtain ⟨t,ht,rfl⟩:=List.mem_map.1 hy
  rw [List.all_eq_true]
  intro cl hcl
  obtain ⟨i,hi⟩:=List.mem_iff_getElem?.1 hcl
  obtain ⟨d,rfl,hd⟩:=hc t ht i cl hi
  exact cmn hn hd
 len:=fun y hy=>by
  obtain ⟨t,ht,rfl⟩:=List.mem_map.1 hy
  simpa using h16 t ht
def lastL (r n rb wb wb2:Nat) (f:Nat→Nat) (wv lv:Value) (RoS:HProp):List HProp :=
 [sC r n f,RoS,arr wb2 0 [wv,lv],wvC wv lv ((sD n).W f)]
def vm_ (r n rb wb wb2:Nat) (f:Nat→Nat) (wv lv:Value) (RoS:HProp):PB.Inv Value MX where
 e:=fun t=>[(3,.pointer (some ⟨wb,0,none⟩)),(4,.pointer (some ⟨rb,0,none⟩)),(19,t)]
 L:=fun t=>vec 1 t ((lastT n f).map num)::lastL r n rb wb wb2 f wv lv RoS
 x:=fun _=>.idle
 ok:=fun _=>True
set_option maxHeartbeats 4000000 in
theorem bvj {L:List HProp} {w0a ta oa:Option Addr} {w0c tc oc:Nat} {w0:List Nat} {rs0:List RW} {order:List Int} (hL:Dup (all L)) (hw0:RdsO L w0a w0.length (w0.map num)) (hw0c:w0.length≤w0c) (hw0b:∀ w∈w0,w<18446744073709551616) (hr0:ThsAt L ta rs0) (hro:RdsO L oa order.length (intC order)) (hoi:∀ k∈order,-9223372036854775808≤k∧k≤9223372036854775807) :
  Tr Try.prog mT 5 [.agg #[.slice w0a w0.length w0c,.slice ta rs0.length tc,.slice oa order.length oc]] L .idle fun v L' x'=>v=.bool true∧x'=.idle:=by
 refine be_ Try.func5 rfl Try.ntmps5 (by simp) fun um Q _ hQ=>?_
 simp only [argE,Nat.zero_add,Nat.reduceAdd]
 repeat (first | (apply wo_mo;apply cy_;exact rfl;exact trivial) | refine bb_ ?_ | (refine wR ?_;try simp only [oS]))
 rintro v' L' ⟨xb,rfl,rfl⟩
 refine gq_ (arr xb 0 [.slice w0a w0.length w0c,.slice ta rs0.length tc,.slice oa order.length oc]::L) .refl ?_
 repeat (first | refine bb_ ?_ | (refine wR ?_;try simp only [oS]) | refine ba_ ?_ | refine wA ?_ | refine wD ?_ | refine wL ?_)
 refine bt_ (.cons rfl .nil) trivial (cgf hw0.there hw0c) ?_
 rintro wv L1 x1 ⟨rfl,rfl⟩
 obtain ⟨n,hn⟩:∃ n,(mo_ w0).length=n:=⟨_,rfl⟩
 have hn1:1≤n:=by rw [← hn];exact bbj.1
 have hn16:n≤16:=by rw [← hn];exact bbj.2
 have hwsb:=bxz hw0b
 generalize hwsd:mo_ w0=ws at hn hwsb
 refine cm_ (bo_ .here (bg_ (by omega))) ?_
 rintro ⟨wa,wn,wc,rfl,hwn,_,hwz,hwy⟩
 obtain rfl:n=wn:=by rw [List.length_map] at hwn;omega
 repeat (first | (apply wo_mo;apply cn_;exact trivial))
 rintro v' L' ⟨wb,rfl,rfl⟩
 repeat (first | refine wS ?_ | refine bb_ ?_ | (refine wR ?_;try simp only [oS]) | refine ba_ ?_ | refine wL ?_)
 refine bt_ (.cons rfl .nil) trivial (vq_ (l:=ws) (rdsoV (.there .here) (by rw [List.length_map];exact hn) hwz hwy) (by omega)) ?_
 rintro cwv L1 x1 ⟨rfl,rfl⟩
 refine cm_ (bo_ .here (bg_ (by omega))) ?_
 rintro ⟨cwa,cwn,cwc,rfl,hcwn,_,hcwz,hcwy⟩
 obtain rfl:n=cwn:=by rw [List.length_map] at hcwn;omega
 skip
 refine bt_ (.cons rfl .nil) trivial (brt hn1 hn16 hn hwsb (rdsoV .here (by rw [List.length_map];exact hn) hcwz hcwy)) ?_
 rintro v1 L1 x1 ⟨r,rfl,rfl,rfl⟩
 repeat (first | (apply wo_mo;apply cn_;exact trivial) | refine wM ?_ | (apply wo_po;apply cx_;exact rfl;exact rfl;exact gY))
 rintro v' L' ⟨rb,rfl,rfl⟩
 repeat (first | refine wS ?_ | refine wneqF ?_ | refine bb_ ?_ | (refine wR ?_;try simp only [oS]) | refine ba_ ?_ | refine wM ?_ | refine wA ?_ | refine wJ ?_ | refine wL ?_ | (apply wo_po;apply bs_;exact rfl;exact rfl;apply qp_;apply js_;exact gY))
 refine bt_ .nil rfl bmt ?_
 rintro v1 L1 x1 ⟨rfl,hL1,rfl⟩
 rw [hL1]
 clear hL1
 repeat (first | refine bb_ ?_ | (refine wR ?_;try simp only [oS]) | refine ba_ ?_ | refine wJ ?_ | refine wD ?_ | (apply wo_po;apply gb_;exact rfl;exact gY) | refine wL ?_ | refine wF ?_ | refine bk_ ?_)
 refine bt_ (.cons rfl .nil) trivial (cqb (cbn [_,_,_,_,_,_] hr0)) ?_
 rintro qv L2 x1 ⟨rfl,rfl⟩
 have hrs:0<(fewR rs0).length∧(fewR rs0).length≤4:=by
  unfold fewR
  split
  ·simp
  ·rename_i h0
   have:=List.length_pos_iff.2 h0
   simp only [List.length_map,List.length_take];omega
 have hrow:=cpv hr0
 generalize hrsd:fewR rs0=rs at hrs hrow
 refine cm_ (bo_ .here (bg_ (by omega))) ?_
 rintro ⟨qa,qn,qc,rfl,hqn,_,hqz,hqy⟩
 have hqn:qn=rs.length:=by simp at hqn;omega
 subst hqn
 cases qa with
 | none=>have:=hqz rfl;omega
 | some ad =>
 obtain ⟨qb,qo,sp⟩:=ad
 have:=hqy _ rfl
 simp only [Addr.mk.injEq,true_and] at this
 subst this
 repeat (first | (apply wo_mo;apply cn_;exact trivial))
 rintro v' L' ⟨p8,rfl,rfl⟩
 repeat (first | refine wS ?_ | refine bb_ ?_ | (refine wR ?_;try simp only [oS]) | refine ba_ ?_ | refine wD ?_ | refine wL ?_ | refine wE ?_)
 refine bt_ (.cons rfl (.cons rfl .nil)) trivial (ccz (m:=rs.length) (wj_ [_,_,_,_,_,_,_,_] hro) (by omega) hoi) ?_
 rintro odv L1 x1 ⟨rfl,rfl⟩
 refine cm_ (bo_ .here (bg_ (by omega))) ?_
 rintro ⟨oda,odn,odc,rfl,hodn,_,hodz,hody⟩
 repeat (first | (apply wo_mo;apply ckk (n:=rs.length);exact rfl;exact rfl;exact rfl;omega;omega;exact trivial) | refine bb_ ?_ | (refine wR ?_;try simp only [oS]) | refine ba_ ?_ | refine wA ?_ | refine wL ?_ | refine wE ?_)
 rintro v' L' ⟨gb,rfl,rfl⟩
 repeat (first | (apply wo_mo;apply cn_;exact trivial))
 rintro v' L' ⟨gt,rfl,rfl⟩
 repeat (first | refine wS ?_ | (apply wo_mo;apply cn_;exact trivial) | refine bb_ ?_ | (refine wR ?_;try simp only [oS]) | refine ba_ ?_ | refine wA ?_)
 rintro v' L' ⟨ib,rfl,rfl⟩
 repeat (first | refine wS ?_ | refine ba_ ?_ | refine bd_ ?_)
 refine dd_ ((rpOut rb p8 gt wb gb r n ws (.slice wa n wc) (.slice (some ⟨qb,qo,none⟩) rs.length qc) (.slice oda odn odc) rs (fb_ rs.length order) L).L (0,ib,.slice none 0 0,.slice none 0 0,[])) (fun h st=>?_) ?_
 ·have s3:Star (all []::all []::vec 1 (.slice none 0 0) []::vec 1 (.slice none 0 0) []::_) h:=bj_ (M:=[]) (bj_ (M:=[]) (di_ (di_ st)))
  exact Ent.star (.take (.there (.there (.there (.there .here)))) (.take (.there (.there .here)) (.take (.there (.there .here)) (.take .here (.take .here (.take .here (.take .here (.take .here (.take .here (.take .here (.take .here (.take .here (.drop (.take .here (.take .here (.drop .refl)))))))))))))))) s3
 refine ck_ (rpOut rb p8 gt wb gb r n ws (.slice wa n wc) (.slice (some ⟨qb,qo,none⟩) rs.length qc) (.slice oda odn odc) rs (fb_ rs.length order) L) (fun i=>rs.length-i.1) (0,ib,.slice none 0 0,.slice none 0 0,[]) ⟨Nat.zero_le _,rfl,fun i t y h=>by simp at h⟩ ⟨rfl,rfl,rfl,rfl,rfl,rfl,rfl,rfl,trivial⟩ .refl rfl ?_
 rintro ⟨i,ib,tv,cv,ts⟩ ⟨hi,hts,hgood⟩
 dsimp only at hi hts hgood
 simp only [rpOut,rpFix]
 refine de_ (bo_ (.there .here) (bg_ (by omega))) ?_
 rintro ⟨tva,tvn,tvc,rfl,htvn,_,htz,hty⟩
 have htvn:tvn=i:=by simp at htvn;omega
 subst htvn
 refine de_ (bo_ (.there (.there .here)) (bg_ (by omega))) ?_
 rintro ⟨cva,cvn,cvc,rfl,hcvn,_⟩
 have hcvn:cvn=tvn:=by simp at hcvn;omega
 subst hcvn
 by_cases hlt:cvn<rs.length
 ·obtain ⟨y,hy⟩:∃ y,rs[cvn]?=some y:=⟨rs[cvn],List.getElem?_eq_getElem hlt⟩
  obtain ⟨ya,yc,row⟩:=y
  repeat (first | refine wlssT ?_ | refine bb_ ?_ | (refine wR ?_;try simp only [oS]) | refine ba_ ?_ | refine wA ?_ | refine wL ?_ | refine wE ?_ | refine wT ?_ | refine bk_ ?_ | refine bd_ ?_)
  obtain ⟨hdo,h16⟩:=hrow cvn _ hy
  simp only at hdo h16
  have hrowv:∀ {v16:Value} {ys:List CD},Rd (vec 2 v16 (ys.map cdV).flatten::all (ys.map cdK)::arr ib 0 [.int .i64 (cvn:Nat)]::vec 1 (.slice tva cvn tvc) (ts.map (rpF p8 rb gt wb))::vec 1 (.slice cva cvn cvc) (ts.map thC1)::all (boxes ts)::all (ts.map hs_)::rpFix rb p8 gt wb gb r n ws (.slice wa n wc) (.slice (some ⟨qb,qo,none⟩) rs.length qc) (.slice oda odn odc) rs (fb_ rs.length order) L) qb (qo+cvn) (.slice ya row.length yc):=fun {v16 ys} =>
   df_ (i:=cvn) (cs:=rs.map rv) (.there (.there (.there (.there (.there (.there (.there (.there (.there (.there (.there .here))))))))))) (by rw [List.getElem?_map,hy];rfl)
  refine dd_ ((rpIn rb p8 gt wb gb r n cvn ib ws (.slice wa n wc) (.slice (some ⟨qb,qo,none⟩) rs.length qc) (.slice oda odn odc) (.slice tva cvn tvc) (.slice cva cvn cvc) rs (fb_ rs.length order) ts row L).L (0,.slice none 0 0,[])) (fun h st=>?_) ?_
  ·exact di_ (bj_ (M:=[]) st)
  refine ck_ (rpIn rb p8 gt wb gb r n cvn ib ws (.slice wa n wc) (.slice (some ⟨qb,qo,none⟩) rs.length qc) (.slice oda odn odc) (.slice tva cvn tvc) (.slice cva cvn cvc) rs (fb_ rs.length order) ts row L) (fun i=>row.length-i.1) (0,.slice none 0 0,[]) ⟨Nat.zero_le _,rfl,by simp⟩ ⟨rfl,rfl,rfl,rfl,rfl,rfl,rfl,rfl,rfl,rfl,trivial⟩ .refl rfl ?_
  rintro ⟨m,v16,ys⟩ ⟨hm,hys,hyc⟩
  dsimp only at hm hys hyc
  simp only [rpIn]
  refine de_ (bo_ .here (bg_ (by omega))) ?_
  rintro ⟨va,vn,vc,rfl,hvn,_⟩
  have hvn:vn=m:=by rw [gu_ (k:=2) (fun _=>rfl)] at hvn;omega
  subst hvn
  have w15:Rd (vec 2 (.slice va vn vc) (ys.map cdV).flatten::all (ys.map cdK)::arr ib 0 [.int .i64 (cvn:Nat)]::vec 1 (.slice tva cvn tvc) (ts.map (rpF p8 rb gt wb))::vec 1 (.slice cva cvn cvc) (ts.map thC1)::all (boxes ts)::all (ts.map hs_)::rpFix rb p8 gt wb gb r n ws (.slice wa n wc) (.slice (some ⟨qb,qo,none⟩) rs.length qc) (.slice oda odn odc) rs (fb_ rs.length order) L) ib 0 (.int .i64 (cvn:Nat)):=.there (.there (.row0 rfl))
  have w8:Rd (vec 2 (.slice va vn vc) (ys.map cdV).flatten::all (ys.map cdK)::arr ib 0 [.int .i64 (cvn:Nat)]::vec 1 (.slice tva cvn tvc) (ts.map (rpF p8 rb gt wb))::vec 1 (.slice cva cvn cvc) (ts.map thC1)::all (boxes ts)::all (ts.map hs_)::rpFix rb p8 gt wb gb r n ws (.slice wa n wc) (.slice (some ⟨qb,qo,none⟩) rs.length qc) (.slice oda odn odc) rs (fb_ rs.length order) L) p8 0 (.slice (some ⟨qb,qo,none⟩) rs.length qc):=cw_ [_,_,_,_,_,_,_,_,_,_] (.row0 rfl)
  by_cases hlm:vn<row.length
  ·obtain ⟨z,hz⟩:∃ z,row[vn]?=some z:=⟨row[vn],List.getElem?_eq_getElem hlm⟩
   obtain ⟨b3,o3,rfl,z1,z2⟩:=hdo.at_ vn z hz
   obtain ⟨hz1,hz2⟩:=hdo.rng z (List.mem_of_getElem? hz)
   obtain ⟨R,hR⟩:∃ R,R=all (ys.map cdK)::arr ib 0 [.int .i64 (cvn:Nat)]::vec 1 (.slice tva cvn tvc) (ts.map (rpF p8 rb gt wb))::vec 1 (.slice cva cvn cvc) (ts.map thC1)::all (boxes ts)::all (ts.map hs_)::rpFix rb p8 gt wb gb r n ws (.slice wa n wc) (.slice (some ⟨qb,qo,none⟩) rs.length qc) (.slice oda odn odc) rs (fb_ rs.length order) L:=⟨_,rfl⟩
   have r15:Rd R ib 0 (.int .i64 (cvn:Nat)):=by rw [hR];exact .there (.row0 rfl)
   have r8:Rd R p8 0 (.slice (some ⟨qb,qo,none⟩) rs.length qc):=by rw [hR];exact cw_ [_,_,_,_,_,_,_,_,_] (.row0 rfl)
   have rrow:Rd R qb (qo+cvn) (.slice (some ⟨b3,o3,none⟩) row.length yc):=by rw [hR];exact df_ (i:=cvn) (cs:=rs.map rv) (.there (.there (.there (.there (.there (.there (.there (.there (.there (.there .here)))))))))) (by rw [List.getElem?_map,hy];rfl)
   have rwb:Rd R wb 0 (.slice wa n wc):=by rw [hR];exact cw_ [_,_,_,_,_,_,_,_,_,_,_,_,_] (.row0 rfl)
   have r3:Rds R b3 (o3+3*vn) [.bool z.d.w,.slice z.a z.d.l.length z.c,.int .i64 z.d.t]:=fun q v hq=>by
    rw [hR]
    exact cw_ [_,_,_,_,_,_,_,_,_,_,_,_,_,_,_] (z1 q v hq)
   have rz:RdsO R z.a z.d.l.length (z.d.l.map num):=by
    rw [hR]
    exact wj_ [_,_,_,_,_,_,_,_,_,_,_,_,_,_,_] z2
   rw [← hR]
   repeat (first | (apply wo_po;apply ce_;exact rfl;exact rfl;omega;exact trivial) | (apply wo_po;apply bc_;exact rfl;(first | exact .there r15 | exact .there r8 | exact .there rrow);exact trivial) | refine wlssT ?_ | refine bb_ ?_ | (refine wR ?_;try simp only [oS]) | refine ba_ ?_ | refine wM ?_ | refine wE ?_ | refine wT ?_ | refine bk_ ?_ | refine bd_ ?_)
   refine bx_ (List.range' 0 14) (by kernel_rfl) ?_
   repeat (first | (apply bh_;exact rfl;exact rfl;exact trivial;intro L;apply ks_;exact rfl) | (apply bh_;exact rfl;exact rfl;exact trivial;intro L;apply ce_;exact rfl;exact rfl;omega) | (apply bh_;exact rfl;exact rfl;exact trivial;intro L;apply bz_ (r:=o3+3*vn);exact rfl;exact rfl;omega;omega;omega) | (apply bm_;exact rfl;exact rfl;exact trivial;apply bc_;exact rfl;(first | exact .there r15 | exact .there r8 | exact .there rrow | exact .there rwb)) | (apply bm_;exact rfl;exact rfl;exact trivial;apply cg_ (vs:=[.bool z.d.w,.slice z.a z.d.l.length z.c,.int .i64 z.d.t]);exact rfl;exact rfl;exact fun q w hq=>.there (r3 q w hq)) | refine aM ?_)
   refine ja_ rfl rfl rfl trivial rfl rfl (.cons rfl (.cons rfl .nil)) (cmp hn1 hn16 hz1 rz.there) ?_ ?_
   ·rintro v1 L1 x1 ⟨y,hy,rfl,rfl,rfl⟩ p hp
    replace hp:=(List.mem_filter.1 hp).1
    simp only [List.mem_cons,List.not_mem_nil,or_false] at hp
    repeat (rcases hp with rfl | hp;· first | exact .inl rfl | exact .inr ⟨_,rfl,trivial,bc_ rfl (cw_ [_,_] (by first | exact r15 | exact r8 | exact rrow | exact rwb))⟩ | exact .inr ⟨_,rfl,trivial,cg_ (vs:=[.bool z.d.w,.slice z.a z.d.l.length z.c,.int .i64 z.d.t]) rfl rfl (fun q w hq=>cw_ [_,_] (r3 q w hq))⟩)
   rintro v1 L1 x1 ⟨w,hw,rfl,rfl,rfl⟩
   refine gf_ rfl rfl rfl rfl trivial (bi_ (sz:=2) (vs:=[.agg #[.slice w.1.1 w.2.1 w.1.2,.slice w.2.2.1.1 w.2.2.2.data.length w.2.2.1.2]]) rfl (.cons rfl .nil) rfl (by intro v hv;cases (List.mem_singleton.1 hv);exact rfl) (by omega)) ?_ ?_
   ·rintro v' L' ⟨nb3,rfl,rfl⟩ p hp
    replace hp:=(List.mem_filter.1 (List.mem_filter.1 hp).1).1
    simp only [List.mem_cons,List.not_mem_nil,or_false] at hp
    repeat (rcases hp with rfl | hp;· first | exact .inl rfl | exact .inr ⟨_,rfl,trivial,bc_ rfl (cw_ [_,_,_] (by first | exact r15 | exact r8 | exact rrow | exact rwb))⟩ | exact .inr ⟨_,rfl,trivial,cg_ (vs:=[.bool z.d.w,.slice z.a z.d.l.length z.c,.int .i64 z.d.t]) rfl rfl (fun q w hq=>cw_ [_,_,_] (r3 q w hq))⟩)
   rintro v' L' ⟨nb3,rfl,rfl⟩
   refine cb_ rfl rfl rfl rfl rfl trivial (cc_ (sz:=2) (new:=[.slice w.1.1 w.2.1 w.1.2,.slice w.2.2.1.1 w.2.2.2.data.length w.2.2.1.2]) rfl rfl rfl rfl (.there (.there .here)) rfl (.inr ⟨_,_,rfl,Rds.all .here⟩) (by intro v hv;simp at hv;rcases hv with rfl | rfl <;> rfl) (by simp only [cd_];omega)) ?_
   rintro v2 L' rfl
   repeat (first | refine aA ?_ | refine ca_ ?_)
   repeat (first | (refine wR ?_;try simp only [oS]) | refine ba_ ?_ | refine wM ?_ | refine wA ?_ | refine wadd ?_)
   have hcl:(fz_ n row)[vn]?=some w.2.2.2:=by
    simp only [fz_,List.getElem?_map,hz,Option.map_some,hw]
   refine dv_ (B:=mT) (I:=rpIn rb p8 gt wb gb r n cvn ib ws (.slice wa n wc) (.slice (some ⟨qb,qo,none⟩) rs.length qc) (.slice oda odn odc) (.slice tva cvn tvc) (.slice cva cvn cvc) rs (fb_ rs.length order) ts row L) (R:=fun q=>row.length-q.1<row.length-vn) (vn+1,v2,ys++[w]) (by show row.length-(vn+1)<row.length-vn;omega) ⟨by show vn+1≤row.length;omega,by simp [hys],by rw [List.map_append,hyc,List.take_add_one,hcl];rfl⟩ ?_ (fun hp st=>?_) rfl
   ·exact ⟨rfl,rfl,rfl,rfl,rfl,rfl,rfl,rfl,rfl,rfl,trivial⟩
   ·rw [hR] at st
    have s1:Star (all (ys.map cdK)::cdK w::vec 2 v2 ((ys.map cdV).flatten++[.slice w.1.1 w.2.1 w.1.2,.slice w.2.2.1.1 w.2.2.2.data.length w.2.2.1.2])::arr ib 0 [.int .i64 (cvn:Nat)]::_) hp:=Ent.star (.take (.there (.there (.there .here))) (.take (.there (.there .here)) (.take .here (.drop .refl)))) st
    have s2:=bq_ s1
    have s3:Star (all ((ys++[w]).map cdK)::vec 2 v2 ((ys++[w]).map cdV).flatten::arr ib 0 [.int .i64 (cvn:Nat)]::_) hp:=bj_ (by
     rw [List.map_append,List.map_append,List.flatten_append,List.append_assoc]
     exact s2)
    exact cs_ s3
  ·obtain rfl:vn=row.length:=by omega
   have hyc':ys.map (·.2.2.2)=fz_ n row:=by rw [hyc,List.take_of_length_le (by simp [fz_])]
   repeat (first | (apply wo_po;apply ce_;exact rfl;exact rfl;omega;exact trivial) | (apply wo_po;apply bc_;exact rfl;(first | exact w8 | exact w15 | exact hrowv);exact trivial) | refine wlssF ?_ | refine bb_ ?_ | (refine wR ?_;try simp only [oS]) | refine ba_ ?_ | refine wM ?_ | refine wE ?_ | refine wF ?_ | refine ch_ ?_)
   repeat (first | (apply wo_mo;apply bi_ (sz:=1) (vs:=[.slice va row.length vc]);exact rfl;exact .cons rfl .nil;exact rfl;(intro v hv;cases (List.mem_singleton.1 hv);exact rfl);omega;exact trivial))
   rintro v' L' ⟨nb4,rfl,rfl⟩
   repeat (first | (apply wo_mo;apply cc_ (sz:=1) (new:=[.slice va row.length vc]);exact rfl;exact rfl;exact rfl;exact rfl;exact (.there (.there (.there (.there (.there .here)))));exact rfl;exact .inr ⟨_,_,rfl,Rds.all .here⟩;(intro v hv;cases (List.mem_singleton.1 hv);exact rfl);(simp only [cd_];omega);exact trivial))
   rintro cv' L' rfl
   repeat (first | (apply wo_po;apply mc_ (first:=[]) (cap:=[_,_,_,_,_]) (vf:=[]);exact .nil;exact .cons rfl (.cons rfl (.cons rfl (.cons rfl (.cons rfl .nil))));exact trivial) | (apply wo_mo;apply bi_ (sz:=1) (vs:=[rpF p8 rb gt wb (ib,(none,0,[]))]);exact rfl;exact .cons rfl .nil;exact rfl;(intro v hv;cases (List.mem_singleton.1 hv);exact rfl);omega;exact trivial) | (refine wR ?_;try simp only [oS]) | refine ba_ ?_ | refine wM ?_ | refine wA ?_)
   rintro v' L' ⟨nb5,rfl,rfl⟩
   repeat (first | (apply wo_mo;apply cc_ (sz:=1) (new:=[rpF p8 rb gt wb (ib,(none,0,[]))]);exact rfl;exact rfl;exact rfl;exact rfl;exact (.there (.there (.there (.there (.there (.there .here))))));exact rfl;exact .inr ⟨_,_,rfl,Rds.all .here⟩;(intro v hv;cases (List.mem_singleton.1 hv);exact rfl);(simp only [cd_];omega);exact trivial))
   rintro tv' L' rfl
   repeat (first | (apply wo_po;apply bc_;exact rfl;exact cw_ [_,_,_,_,_,_] (.row0 rfl);exact trivial) | (apply wo_mo;apply cn_;exact trivial) | refine bb_ ?_ | (refine wR ?_;try simp only [oS]) | refine ba_ ?_ | refine wA ?_)
   rintro v' L' ⟨ib2,rfl,rfl⟩
   repeat (first | refine wS ?_ | (refine wR ?_;try simp only [oS]) | refine ba_ ?_ | refine wL ?_ | refine wadd ?_)
   let t:TH:=(ib,(va,vc,ys))
   have hyl:ys.length=row.length:=hys
   refine dv_ (B:=mT) (I:=rpOut rb p8 gt wb gb r n ws (.slice wa n wc) (.slice (some ⟨qb,qo,none⟩) rs.length qc) (.slice oda odn odc) rs (fb_ rs.length order) L) (R:=fun q=>rs.length-q.1<rs.length-cvn) (cvn+1,ib2,tv',cv',ts++[t]) (by show rs.length-(cvn+1)<rs.length-cvn;omega) ⟨by show cvn+1≤rs.length;omega,by simp [hts],bhk hgood (by rw [hts];exact hy) hyc'⟩ ?_ (fun hp st=>?_) rfl
   ·exact ⟨rfl,rfl,rfl,rfl,rfl,rfl,rfl,rfl,trivial⟩
   ·have s1:=Ent.star (.take (.there (.there (.there (.there (.there .here))))) (.take (.there (.there (.there (.there (.there .here))))) (.take .here (.take .here (.drop (.take .here (.drop (.take .here (.take .here (.take .here .refl)))))))))) st
    have s2:=bn_ (d:=hs_ t) (bj_ (M:=[_,_]) s1) (fun h z=>bmj (a:=va) (n:=row.length) (c:=vc) (ys:=ys) (F:=[]) z) fun _ z=>z
    have s3:=bq_ (Ent.star (.take (.there (.there (.there (.there (.there .here))))) (.take (.there (.there (.there (.there .here)))) .refl)) s2)
    have s4:Star (all (boxes (ts++[t]))::_) hp:=bj_ (by
     rw [bqz,List.append_assoc,hts]
     exact s3)
    have s5:=bq_ (Ent.star (.take (.there (.there (.there (.there (.there .here))))) (.take (.there .here) .refl)) s4)
    have s6:Star (all ((ts++[t]).map hs_)::_) hp:=bj_ (by
     rw [List.map_append,List.append_assoc]
     exact s5)
    have s7:=Ent.star (.take (.there (.there .here)) (.take (.there (.there .here)) (.take (.there (.there .here)) (.take (.there .here) (.take .here .refl))))) s6
    have e1:(ts++[t]).map (rpF p8 rb gt wb)=ts.map (rpF p8 rb gt wb)++[rpF p8 rb gt wb (ib,(none,0,[]))]:=by rw [List.map_append];rfl
    have e2:(ts++[t]).map thC1=ts.map thC1++[.slice va row.length vc]:=by rw [List.map_append];show _++[Value.slice va ys.length vc]=_;rw [hyl]
    show Star (_::vec 1 tv' ((ts++[t]).map (rpF p8 rb gt wb))::vec 1 cv' ((ts++[t]).map thC1)::_) hp
    rw [e1,e2]
    exact s7
 ·obtain rfl:cvn=rs.length:=by omega
  repeat (first | refine wlssF ?_ | refine bb_ ?_ | (refine wR ?_;try simp only [oS]) | refine ba_ ?_ | refine wL ?_ | refine wE ?_ | refine wF ?_ | refine ch_ ?_)
  refine pw_ (b:=gt) (o:=0) (.there (.there (.there (.there (.there .here))))) ?_
  refine pw_ (b:=rb) (o:=0) (.there (.there (.there (.there (.there (.there (.there (.there (.there (.there .here)))))))))) ?_
  refine pw_ (b:=wb) (o:=0) (.there (.there (.there (.there (.there (.there (.there (.there (.there (.there (.there (.there .here)))))))))))) ?_
  refine pw_ (b:=p8) (o:=0) (.there (.there (.there (.there (.there (.there (.there (.there (.there (.there .here)))))))))) ?_
  refine dt_ ((fun h=>∃ sp,arr qb qo (rs.map rv++sp) h)::_) (fun h st=>bn_ (Ent.star (.take (.there (.there (.there (.there (.there (.there (.there (.there (.there (.there (.there .here))))))))))) .refl) st) chr fun _ z=>z) ?_
  refine wo_ex .here fun sp=>?_
  refine pw_ (b:=qb) (o:=qo) .here ?_
  let RoS:HProp:=roS qb qo qc p8 rb gt wb gb r n wa wc rs sp L
  have hRoS:Dup RoS:=bgf (by
   intro c hc
   simp only [List.mem_cons,List.not_mem_nil,or_false] at hc
   rcases hc with rfl | rfl | rfl | rfl | rfl | rfl
   ·exact vo_
   ·exact vo_
   ·exact vo_
   ·exact vo_
   ·exact vo_
   ·exact hL)
  refine dt_ (all [wds (sAddr r) (n+1) (sK r n) (recF ws 0),all []]::all ((gh_ n r p8 rb gt wb gb RoS ts).map Thr.M)::RoS::vec 1 (.slice oda odn odc) (intC (fb_ rs.length order))::vec 1 (.slice tva rs.length tvc) (ts.map (rpF p8 rb gt wb))::vec 1 (.slice cva rs.length cvc) (ts.map thC1)::all (ts.map hs_)::vec 1 (.slice wa n wc) (ws.map num)::[]) (fun h st=>?_) ?_
  ·have s1:=wc_ (M:=[_,_,_,_,_,_,_,_,_,_,_,_,_,_]) st
   have s2:Star (RoS::_) h:=bj_ (M:=[_,_,_,_,_,_]) (Ent.star (.take (.there .here) (.take (.there .here) (.take (.there (.there .here)) (.take (.there .here) (.take (.there .here) (.take .here .refl)))))) s1)
   have s3:=Ent.star (.take .here (.take (.there (.there (.there .here))) (.take (.there (.there (.there (.there .here)))) (.drop .refl)))) s2
   rw [btn,← hts] at s3
   have s4:=deal hRoS s3
   rw [hts] at s4
   rw [cns]
   have s5:Star (all []::wds (sAddr r) (n+1) (sK r n) (recF ws 0)::_) h:=bj_ (M:=[]) (Ent.star (.take (.there (.there (.there (.there (.there (.there .here)))))) (.take .here (.take .here (.take (.there (.there (.there .here))) (.take .here (.take .here (.take .here .refl))))))) s4)
   exact bj_ (M:=[_,_]) (Ent.star (.take (.there .here) (.take .here .refl)) s5)
  have hcalls:∀ t∈ts,ju_ n (t.2.2.2.map (·.2.2.2)):=fun t ht=>by
   obtain ⟨i,hi⟩:=List.mem_iff_getElem?.1 ht
   have hil:=(List.getElem?_eq_some_iff.1 hi).1
   rw [hgood i t _ hi (List.getElem?_eq_getElem (by omega))]
   exact qo_ fun y hy=>((hrow i _ (List.getElem?_eq_getElem (by omega))).1.rng y hy).2
  have hys8:∀ t∈ts,t.2.2.2.length≤6:=fun t ht=>by
   obtain ⟨i,hi⟩:=List.mem_iff_getElem?.1 ht
   have hil:=(List.getElem?_eq_some_iff.1 hi).1
   have h1:=hgood i t _ hi (List.getElem?_eq_getElem (by omega))
   have h2:=(hrow i _ (List.getElem?_eq_getElem (by omega))).2
   have h3:=congrArg List.length h1
   simp only [List.length_map,fz_] at h3
   omega
  have hys16:∀ t∈ts,t.2.2.2.length<1000000:=fun t ht=>Nat.lt_of_le_of_lt (hys8 t ht) (by decide)
  have hlen:(gh_ n r p8 rb gt wb gb RoS ts).length=rs.length:=by rw [← hts];simp [gh_]
  have hbeg:Begins (sD n) (fun f=>all [wds (sAddr r) (n+1) (sK r n) f,all []]) (rgPv gb) 0 (gh_ n r p8 rb gt wb gb RoS ts) (ccOf ts):=bnq hn1 hn16 hcalls
  have hol:(fb_ rs.length order).length≤4096:=by simp only [fb_,List.length_map,List.length_take];omega
  obtain rfl:odn=(fb_ rs.length order).length:=by simp [intC] at hodn;omega
  have hob:∀ k∈fb_ rs.length order,-9223372036854775808≤k∧k≤9223372036854775807:=fun k hk=>by
   obtain ⟨z,_,rfl⟩:=List.mem_map.1 hk
   have h1:=Int.emod_nonneg z (by omega:(rs.length:Int)+1≠0)
   have h2:=Int.emod_lt_of_pos z (by omega:(0:Int)<(rs.length:Int)+1)
   omega
  obtain ⟨st,hplay,_,hstl⟩:=bkc (s0:=recF ws 0) (o:=fb_ rs.length order) hbeg (bsc hn hwsb)
  have rwb5:Rd (all [wds (sAddr r) (n+1) (sK r n) (recF ws 0),all []]::all ((gh_ n r p8 rb gt wb gb RoS ts).map Thr.M)::RoS::vec 1 (.slice oda (fb_ rs.length order).length odc) (intC (fb_ rs.length order))::vec 1 (.slice tva rs.length tvc) (ts.map (rpF p8 rb gt wb))::vec 1 (.slice cva rs.length cvc) (ts.map thC1)::all (ts.map hs_)::vec 1 (.slice wa n wc) (ws.map num)::[]) wb 0 (.slice wa n wc):=cw_ [_,_] (gn_ (cw_ [_,_,_] (Rd.fro (k:=0) rfl rfl)))
  skip
  have hworld:=fun X=>bfq (B:=mT) (L:=all [wds (sAddr r) (n+1) (sK r n) (recF ws 0),all []]::all ((gh_ n r p8 rb gt wb gb RoS ts).map Thr.M)::RoS::vec 1 (.slice oda (fb_ rs.length order).length odc) (intC (fb_ rs.length order))::vec 1 (.slice tva rs.length tvc) (ts.map (rpF p8 rb gt wb))::vec 1 (.slice cva rs.length cvc) (ts.map thC1)::all (ts.map hs_)::vec 1 (.slice wa n wc) (ws.map num)::[]) (x:=X) (a:=wa) (c:=wc) (ws:=ws) (by rw [hn];exact hn16) hwsb (by rw [hn];exact rdsoV (.there (.there (.there (.there (.there (.there (.there .here))))))) (by rw [List.length_map];exact hn) hwz hwy)
  simp only [hn] at hworld
  refine bt_ (.cons rfl .nil) trivial (hworld _) ?_
  rintro v1 L1 x1 ⟨wv,lv,rfl,rfl,rfl⟩
  refine cm_ (bo_ .here gy_) ?_
  rintro ⟨⟨wa9,wn9,wc9,rfl⟩,la,ln,lc,rfl⟩
  repeat (first | refine wM ?_)
  have hplay':Mach.play 60 16385 ⟨[0::ws],1⟩ ((fb_ rs.length order).map fun k=>if k<0 then none else some k.toNat) ((ccK ts).map (·.2))=some st:=by
   rw [bxw,← cjp (v:=0),hn];exact hplay
  rw [← ccK_v]
  refine bt_ (.cons rfl (.cons rfl (.cons rfl .nil))) trivial (bsf (w:=⟨[0::ws],1⟩) (st:=st) (o:=fb_ rs.length order) (cc:=ccK ts) (f:=60) (g:=16385) hplay' (by omega) (CallsOk.there (CallsOk.there (CallsOk.there (CallsOk.there (CallsOk.there (cfk hn16 (by omega) hcalls hys16)))))) (by omega) hob ?_ .here (.there (.there (.there (.there (.there .here)))))) ?_
  ·intro i k hk
   have hil:=(List.getElem?_eq_some_iff.1 hk).1
   cases oda with
   | none=>have:=hodz rfl;omega
   | some y =>
    obtain ⟨ob,oo,sp2⟩:=y
    cases hody _ rfl
    exact ⟨ob,oo,rfl,df_ (i:=i) (.there (.there (.there .here))) (by simp [intC,hk])⟩
  rintro v2 L2 x2 ⟨trv,cutv,ansv,wv2,lv2,os,rfl,rfl,hos,hst⟩
  refine dt_ _ hst ?_
  refine cm_ (bo_ .here (bg_ (by omega))) ?_
  rintro ⟨a3,n3,c3,rfl,hn3,_,hz3,hy3⟩
  refine cm_ (bo_ (.there .here) (bg_ (by omega))) ?_
  rintro ⟨a4,n4,c4,rfl,hn4,_,hz4,hy4⟩
  refine cm_ (bo_ (.there (.there .here)) (bg_ (by omega))) ?_
  rintro ⟨a5,n5,c5,rfl,hn5,_,hz5,hy5⟩
  refine cm_ (bo_ (.there (.there (.there (.there .here)))) gy_) ?_
  rintro ⟨⟨wa2,wn2,wc2,rfl⟩,la2,ln2,lc2,rfl⟩
  repeat (first | (apply wo_mo;apply cn_;exact trivial) | refine wM ?_ | (apply wo_po;apply cx_;exact rfl;exact rfl;exact gY))
  rintro v' L' ⟨pb2,rfl,rfl⟩
  repeat (first | (apply wo_mo;apply cn_;exact trivial))
  rintro v' L' ⟨wb2,rfl,rfl⟩
  repeat (first | (apply wo_pm;apply ct_ (c:=0) (k:=0) (a:=0) (vs:=[.slice none 0 0,.slice none 0 0]);exact rfl;exact rfl;exact rfl;(intro w hw;simp [Value.cells] at hw;rcases hw with rfl | rfl <;> rfl);exact rfl;exact Nat.le_refl 2;(first | exact .here | exact .there .here);exact trivial) | refine bb_ ?_ | (refine wR ?_;try simp only [oS]) | refine ba_ ?_ | refine wM ?_ | refine wA ?_)
  refine dt_ (all [wds (sAddr r) (n+1) (sK r n) (recF ws 0),all []]::all ((gh_ n r p8 rb gt wb gb RoS ts).map Thr.M)::RoS::vec 1 (.slice oda (fb_ rs.length order).length odc) (intC (fb_ rs.length order))::vec 1 (.slice tva rs.length tvc) (ts.map (rpF p8 rb gt wb))::arr wb2 0 [.slice wa2 wn2 wc2,.slice la2 ln2 lc2]::arr pb2 0 [.slice a3 n3 c3,.slice a4 n4 c4]::vec 3 (.slice a3 n3 c3) (st.tr.map trC).flatten::vec 1 (.slice a4 n4 c4) (st.cut.map cI)::vec 1 (.slice a5 n5 c5) (os.map (·.1))::all (os.map ansK)::wvC (.slice wa2 wn2 wc2) (.slice la2 ln2 lc2) st.w::[]) (fun h s=>?_) ?_
  ·exact Ent.star (.take (.there (.there (.there (.there (.there (.there (.there (.there (.there .here))))))))) (.take (.there (.there (.there (.there (.there (.there (.there (.there (.there .here))))))))) (.take (.there (.there (.there (.there (.there (.there (.there (.there (.there .here))))))))) (.take (.there (.there (.there (.there (.there (.there (.there (.there (.there .here))))))))) (.take (.there (.there (.there (.there (.there (.there (.there (.there (.there .here))))))))) (.take .here (.take .here (.take .here (.take .here (.take .here (.take .here (.take .here (.drop (.drop (.drop (.drop .refl)))))))))))))))) s
  skip
  refine bt_ (.cons rfl (.cons rfl .nil)) trivial (bws (D:=sD n) (order:=fb_ rs.length order) (ts:=gh_ n r p8 rb gt wb gb RoS ts) (cc:=ccOf ts) (s0:=recF ws 0) hbeg (bsc hn hwsb) cbp (cjf hn1 hn16 hrow hts hgood) (by omega) (by omega) (by omega)
   (by rw [cjg];exact bjx (.there (.there .here)) (by simp [hts]) htz hty) (bjx (.there .here) hodn hodz hody)) ?_
  rintro v1 L1 x1 ⟨tv2,cv2,st',f',rfl,rfl,hplay2,hw,htr,hstl',rfl⟩
  obtain rfl:st'=st:=Option.some.inj (hplay2.symm.trans hplay)
  refine cm_ (bo_ .here (bg_ (by omega))) ?_
  rintro ⟨a1,n1,c1,rfl,hm1,_,hz1,hy1⟩
  obtain rfl:n1=st'.tr.length:=by rw [tu_] at hm1;simp at hm1;omega
  refine cm_ (bo_ (.there .here) (bg_ (by omega))) ?_
  rintro ⟨a2,n2,c2,rfl,hn2,_,hz2,hy2⟩
  obtain rfl:n2=(Mach.St.cut st').length:=by simp [cutC] at hn2;omega
  repeat (first | (apply wo_mo;apply cn_;exact trivial) | refine wM ?_ | (apply wo_po;apply cx_;exact rfl;exact rfl;exact gY))
  rintro v' L' ⟨pb3,rfl,rfl⟩
  repeat (first | (apply wo_pm;apply ct_ (c:=0) (k:=0) (a:=0) (vs:=[.slice none 0 0,.slice none 0 0]);exact rfl;exact rfl;exact rfl;(intro w hw;simp [Value.cells] at hw;rcases hw with rfl | rfl <;> rfl);exact rfl;exact Nat.le_refl 2;exact .here;exact trivial) | refine wneqF ?_ | refine bb_ ?_ | (refine wR ?_;try simp only [oS]) | refine ba_ ?_ | refine wM ?_ | refine wA ?_)
  repeat (first | (apply wo_po;apply cg_ (vs:=[.slice a1 st'.tr.length c1,.slice a2 (Mach.St.cut st').length c2]);exact rfl;exact rfl;exact Rds.all .here;exact gY) | (apply wo_po;apply cg_ (vs:=[.slice a3 n3 c3,.slice a4 n4 c4]);exact rfl;exact rfl;exact Rds.all (.there (.there (.there (.there (.there (.there (.there (.there (.there .here)))))))));exact gY))
  obtain rfl:n3=st'.tr.length:=by rw [bnn,tu_] at hn3;simp at hn3;omega
  obtain rfl:n4=(Mach.St.cut st').length:=by simp at hn4;omega
  obtain rfl:n5=st'.l.length:=by
   have:=congrArg List.length hos
   simp only [List.length_map] at this hn5
   omega
  have hl4:st'.l.length≤4:=by rw [hstl];simp only [ccOf,List.length_map];omega
  obtain ⟨trp,htrp⟩:∃ trp,trp=st'.tr.map fun e=>(e.1,mkII e.2):=⟨_,rfl⟩
  have htl:st'.tr.length=trp.length:=by rw [htrp];simp
  rw [bnn,← htrp,htl]
  rw [htl] at hz1 hz3
  refine bt_ (.cons rfl (.cons rfl .nil)) rfl (yx_ (tr:=trp) (cut:=st'.cut) (bjw (.there .here) rfl hz1 hy1) (bjw (.there (.there (.there (.there (.there (.there (.there (.there (.there (.there .here)))))))))) rfl hz3 hy3) (bsd (.there (.there .here)) rfl hz2 hy2) (bsd (.there (.there (.there (.there (.there (.there (.there (.there (.there (.there (.there .here))))))))))) rfl hz4 hy4) (by omega) (by have:=cqc (st:=st');omega)) ?_
  rintro v L1 x1 ⟨rfl,rfl,rfl⟩
  repeat (first | (apply wo_po;apply bc_;exact rfl;exact cw_ [_,_,_,_,_] (gn_ (cw_ [_,_,_,_] (Rd.fro (k:=0) rfl rfl)));exact gY) | refine wM ?_ | refine wJ ?_ | (apply wo_po;apply gb_;exact rfl;exact gY))
  refine dt_ ((fun h=>∃ ys:List (Value × List (Value × List Nat)),(ys.length=st'.l.length∧∀ (k:Nat) y,ys[k]?=some y→GotQ (st'.l.map hw_) k y)∧all (ys.mapIdx (gotY gb)) h)::(fun h=>∃ ys:List (Value × List (Bool × Value × List Nat)),(ys.length=os.length∧∀ (k:Nat) y,ys[k]?=some y→AnsQ os k y)∧all (ys.mapIdx ansY) h)::vec 1 (.slice a5 st'.l.length c5) (os.map (·.1))::all [wds (sAddr r) (n+1) (sK r n) f',all []]::RoS::arr wb2 0 [.slice wa2 wn2 wc2,.slice la2 ln2 lc2]::arr pb2 0 [.slice a3 trp.length c3,.slice a4 (Mach.St.cut st').length c4]::wvC (.slice wa2 wn2 wc2) (.slice la2 ln2 lc2) st'.w::[]) (fun h s=>?_) ?_
  ·have s1:Star (all (st'.l.mapIdx fun k t=>rgPv gb (k,t))::all (os.map ansK)::vec 1 (.slice a5 st'.l.length c5) (os.map (·.1))::all [wds (sAddr r) (n+1) (sK r n) f',all []]::RoS::arr wb2 0 [.slice wa2 wn2 wc2,.slice la2 ln2 lc2]::arr pb2 0 [.slice a3 trp.length c3,.slice a4 (Mach.St.cut st').length c4]::wvC (.slice wa2 wn2 wc2) (.slice la2 ln2 lc2) st'.w::[]) h:=Ent.star (.take (.there (.there (.there (.there .here)))) (.take (.there (.there (.there (.there (.there (.there (.there (.there (.there (.there (.there (.there .here)))))))))))) (.take (.there (.there (.there (.there (.there (.there (.there (.there (.there (.there (.there .here))))))))))) (.take (.there (.there (.there .here))) (.take (.there (.there (.there .here))) (.take (.there (.there (.there (.there (.there .here))))) (.take (.there (.there (.there (.there (.there .here))))) (.take (.there (.there (.there (.there (.there (.there (.there .here))))))) (.drop (.drop (.drop (.drop (.drop (.drop (.drop .refl))))))))))))))) s
   exact bhs (ckt (bn_ s1 (fun _ z=>z) fun _ z=>bhs (cnc z)))
  refine wo_ex (c:=fun (ys:List (Value × List (Value × List Nat))) h=>(ys.length=st'.l.length∧∀ (k:Nat) y,ys[k]?=some y→GotQ (st'.l.map hw_) k y)∧all (ys.mapIdx (gotY gb)) h) .here fun gys=>bzt .here fun hgys=>?_
  refine wo_ex (c:=fun (ys:List (Value × List (Bool × Value × List Nat))) h=>(ys.length=os.length∧∀ (k:Nat) y,ys[k]?=some y→AnsQ os k y)∧all (ys.mapIdx ansY) h) (.there .here) fun ays=>bzt .here fun hays=>?_
  obtain ⟨anss,hanss⟩:∃ anss,anss=os.map (·.2):=⟨_,rfl⟩
  have hal:st'.l.length=anss.length:=by rw [hanss,hos,List.length_map]
  obtain ⟨REST,hREST⟩:∃ REST,REST=all [wds (sAddr r) (n+1) (sK r n) f',all []]::RoS::arr wb2 0 [.slice wa2 wn2 wc2,.slice la2 ln2 lc2]::arr pb2 0 [.slice a3 trp.length c3,.slice a4 (Mach.St.cut st').length c4]::wvC (.slice wa2 wn2 wc2) (.slice la2 ln2 lc2) st'.w::[]:=⟨_,rfl⟩
  rw [← hREST]
  have hga:brc (all (ays.mapIdx ansY)::all (gys.mapIdx (gotY gb))::vec 1 (.slice a5 st'.l.length c5) (os.map (·.1))::REST) (some ⟨gb,0,none⟩) (st'.l.map hw_):=ckv (.there .here) (by rw [hgys.1,List.length_map]) hgys.2
  have haa:brd (all (ays.mapIdx ansY)::all (gys.mapIdx (gotY gb))::vec 1 (.slice a5 st'.l.length c5) (os.map (·.1))::REST) a5 anss:=hanss▸cnd (.there (.there .here)) hn5 hz5 hy5 .here hays.1 hays.2
  have hrl:rs.length=anss.length:=by rw [← hal,hstl];simp only [ccOf,List.length_map];omega
  have hbig:=Mach.play_n hplay
  have hany:∀ a∈anss,∃ t∈st'.l,a=t.ans:=fun a ha=>by
   rw [hanss,hos] at ha
   obtain ⟨t,ht,rfl⟩:=List.mem_map.1 ha
   exact ⟨t,ht,rfl⟩
  have hfu:(sD n).fu*(st'.tr.length+1)<1000000000:=by show 60*_<_;omega
  rw [hal] at hga haa ⊢
  simp only [hrl]
  refine bt_ (.cons rfl (.cons rfl .nil)) rfl (xh_ (got:=st'.l.map hw_) (anss:=anss) hga haa (by rw [List.length_map,hal]) (fun k pre ans hp ha=>?_) (by omega) (fun a ha=>?_) fun a ha y hy=>?_) ?_
  ·rw [hanss,hos,List.getElem?_map,Option.map_eq_some_iff] at ha
   rw [List.getElem?_map,Option.map_eq_some_iff] at hp
   obtain ⟨t,ht,rfl⟩:=ha
   obtain ⟨t',ht',rfl⟩:=hp
   rw [ht] at ht'
   cases ht'
   exact cjd (Mach.play_ok hplay t (List.mem_of_getElem? ht))
  ·obtain ⟨t,ht,rfl⟩:=hany a ha
   exact Nat.lt_of_le_of_lt (hbig t ht).1 hfu
  ·obtain ⟨t,ht,rfl⟩:=hany a ha
   exact Nat.lt_of_le_of_lt ((hbig t ht).2 y hy) hfu
  rintro v1 L1 x1 ⟨rfl,rfl,rfl⟩
  rw [hREST]
  refine dt_ (all [wds (sAddr r) (n+1) (sK r n) f',all []]::RoS::arr wb2 0 [.slice wa2 wn2 wc2,.slice la2 ln2 lc2]::arr pb2 0 [.slice a3 trp.length c3,.slice a4 (Mach.St.cut st').length c4]::wvC (.slice wa2 wn2 wc2) (.slice la2 ln2 lc2) st'.w::[]) (fun h st=>Ent.star (.drop (.drop (.drop .refl))) st) ?_
  by_cases hcut:0<(Mach.St.cut st').length
  ·repeat (first | refine wgtrT ?_ | refine bb_ ?_ | (refine wR ?_;try simp only [oS]) | refine ba_ ?_ | refine wA ?_ | refine wJ ?_ | refine wD ?_ | (apply wo_po;apply gb_;exact rfl;exact gY) | refine wL ?_ | refine wE ?_ | refine wT ?_ | refine wF ?_ | refine bw_ ?_ | refine bk_ ?_)
   (first | refine or1 Try.func5 Try.results5 hQ rfl ?_ | refine on1 Try.func5 Try.results5 hQ rfl ?_)
   exact ⟨rfl,rfl⟩
  repeat (first | refine wgtrF ?_ | refine bb_ ?_ | (refine wR ?_;try simp only [oS]) | refine ba_ ?_ | refine wJ ?_ | refine wD ?_ | (apply wo_po;apply gb_;exact rfl;exact gY) | refine wL ?_ | refine wE ?_ | refine wF ?_ | refine bk_ ?_)
  refine dd_ (lastL r n rb wb wb2 f' (.slice wa2 wn2 wc2) (.slice la2 ln2 lc2) RoS) (fun h s=>?_) ?_
  ·have s1:Star (sC r n f'::all []::_) h:=bq_ (M:=[_,_]) s
   rw [hw] at s1
   exact Ent.star (.take .here (.take (.there .here) (.take (.there .here) (.take (.there (.there .here)) (.drop (.drop .refl)))))) s1
  have rwb2:Rds (lastL r n rb wb wb2 f' (.slice wa2 wn2 wc2) (.slice la2 ln2 lc2) RoS) wb2 0 [.slice wa2 wn2 wc2,.slice la2 ln2 lc2]:=Rds.all (.there (.there .here))
  have rb0:Rd (lastL r n rb wb wb2 f' (.slice wa2 wn2 wc2) (.slice la2 ln2 lc2) RoS) rb 0 (.pointer (some ⟨r,0,none⟩)):=cw_ [_] (gn_ (cw_ [_,_] (Rd.fro (k:=0) rfl rfl)))
  have rw0:Rd (lastL r n rb wb wb2 f' (.slice wa2 wn2 wc2) (.slice la2 ln2 lc2) RoS) wb 0 (.slice wa n wc):=cw_ [_] (gn_ (cw_ [_,_,_] (Rd.fro (k:=0) rfl rfl)))
  have hH:Has (lastL r n rb wb wb2 f' (.slice wa2 wn2 wc2) (.slice la2 ln2 lc2) RoS) (wvC (.slice wa2 wn2 wc2) (.slice la2 ln2 lc2) ((sD n).W f')) [sC r n f',RoS,arr wb2 0 [.slice wa2 wn2 wc2,.slice la2 ln2 lc2]]:=(.there (.there (.there .here)))
  obtain ⟨g,ms,hcomes,hms⟩:=bqm (f:=f') hn1 hn16
  refine qw_ (vm_ r n rb wb wb2 f' (.slice wa2 wn2 wc2) (.slice la2 ln2 lc2) RoS) ?_ ?_
  ·refine bx_ (List.range' 0 13) (by kernel_rfl) ?_
   repeat (first | (apply bh_;exact rfl;exact rfl;exact trivial;intro L;apply ks_;exact rfl) | (apply bm_;exact rfl;exact rfl;exact trivial;apply cg_ (vs:=[.slice wa2 wn2 wc2,.slice la2 ln2 lc2]);exact rfl;exact rfl;exact rwb2) | (apply bm_;exact rfl;exact rfl;exact trivial;apply bc_;exact rfl;exact rw0))
   refine bgq (f:=9) (ord':=[0,1,2,9,3,4,5,6,7,8,10,11,12]) (by kernel_rfl) (by kernel_rfl) (by kernel_rfl) (by kernel_rfl) ?_ ?_
   ·refine bmw rfl rfl trivial rfl rfl (.cons rfl (.cons rfl .nil)) (qg_ (k:=1) hn1 hn16) ?_ ?_
    ·rintro v L' x' ⟨ka,kc,rfl,rfl,rfl⟩ p hp
     replace hp:=(List.mem_filter.1 hp).1
     simp only [List.mem_cons,List.not_mem_nil,or_false] at hp
     repeat (rcases hp with rfl | hp;· first | exact .inl rfl | exact .inr ⟨_,rfl,trivial,cg_ (vs:=[.slice wa2 wn2 wc2,.slice la2 ln2 lc2]) rfl rfl (fun q w hq=>cw_ [_] (rwb2 q w hq))⟩ | exact .inr ⟨_,rfl,trivial,bc_ rfl (cw_ [_] rw0)⟩)
     all_goals (subst hp;first | exact .inl rfl | exact .inr ⟨_,rfl,trivial,cg_ (vs:=[.slice wa2 wn2 wc2,.slice la2 ln2 lc2]) rfl rfl (fun q w hq=>cw_ [_] (rwb2 q w hq))⟩ | exact .inr ⟨_,rfl,trivial,bc_ rfl (cw_ [_] rw0)⟩)
    rintro v L' x' ⟨ka,kc,rfl,rfl,rfl⟩
    refine bgq (f:=9) (ord':=[0,1,2,3,9,4,5,6,7,8,10,11,12]) (by kernel_rfl) (by kernel_rfl) (by kernel_rfl) (by kernel_rfl) ?_ ?_
    ·refine bmw (Pd':=[]) rfl (by kernel_rfl) trivial rfl rfl (.cons rfl (.cons rfl .nil)) (mp_ (kv:=.slice ka (16+2*n) kc) (dv:=.slice none 0 0) hcomes (sr_ok hn16 (by decide)) hms (.there hH) .here) (fun v L' x' _ p hp=>by cases hp) ?_
     rintro v L' x' ⟨tv,wv',lv',mv,rfl,rfl,rfl⟩
     repeat (first | refine aM ?_ | (apply bh_;exact rfl;exact rfl;exact gY;intro L;apply cx_;exact rfl;exact rfl))
     refine gp_ (bo_ (.there .here) gy_) ?_
     rintro ⟨⟨wa',wn',wc',rfl⟩,la',ln',lc',rfl⟩
     refine gf_ rfl rfl rfl rfl trivial cn_ ?_ ?_
     ·rintro v L' ⟨nb2,rfl,rfl⟩ p hp
      replace hp:=(List.mem_filter.1 hp).1
      simp only [List.mem_cons,List.not_mem_nil,or_false] at hp
      rcases hp with rfl | rfl | rfl | rfl <;> exact .inl rfl
     rintro v L' ⟨nb2,rfl,rfl⟩
     repeat (first | refine aA ?_)
     refine cb_ rfl rfl rfl rfl rfl trivial (ct_ (b:=nb2) (c:=0) (k:=0) (a:=0) (vs:=[.slice none 0 0,.slice none 0 0]) rfl rfl rfl (by intro w hw;simp [Value.cells] at hw;rcases hw with rfl | rfl <;> rfl) rfl (Nat.le_refl 2) .here) ?_
     rintro v' L' ⟨rfl,rfl⟩
     repeat (first | refine aA ?_ | refine ca_ ?_)
     refine xy_ (B:=mT) (I:=vm_ r n rb wb wb2 f' (.slice wa2 wn2 wc2) (.slice la2 ln2 lc2) RoS) tv trivial ⟨rfl,rfl,rfl,trivial⟩ (fun h s=>?_) rfl
     exact Ent.star (.take (.there .here) (.take (.there (.there (.there (.there .here)))) (.take (.there (.there (.there (.there .here)))) (.take (.there (.there (.there (.there .here)))) (.take (.there (.there (.there .here))) (.drop (.drop (.drop .refl)))))))) s
    ·refine kw_ rfl rfl rfl trivial cn_ ?_ ?_
     ·rintro v L' ⟨nb2,rfl,rfl⟩ p hp
      replace hp:=(List.mem_filter.1 hp).1
      replace hp:=(List.mem_filter.1 hp).1
      simp only [List.mem_cons,List.not_mem_nil,or_false] at hp
      repeat (rcases hp with rfl | hp;· first | exact .inl rfl | exact .inr ⟨_,rfl,trivial,cg_ (vs:=[.slice wa2 wn2 wc2,.slice la2 ln2 lc2]) rfl rfl (fun q w hq=>cw_ [_,_] (rwb2 q w hq))⟩ | exact .inr ⟨_,rfl,trivial,bc_ rfl (cw_ [_,_] rw0)⟩)
      all_goals (subst hp;first | exact .inl rfl | exact .inr ⟨_,rfl,trivial,cg_ (vs:=[.slice wa2 wn2 wc2,.slice la2 ln2 lc2]) rfl rfl (fun q w hq=>cw_ [_,_] (rwb2 q w hq))⟩ | exact .inr ⟨_,rfl,trivial,bc_ rfl (cw_ [_,_] rw0)⟩)
     rintro v L' ⟨nb2,rfl,rfl⟩
     refine ja_ (Pd':=[]) rfl rfl (by kernel_rfl) trivial rfl rfl (.cons rfl (.cons rfl .nil)) (mp_ (kv:=.slice ka (16+2*n) kc) (dv:=.slice none 0 0) hcomes (sr_ok hn16 (by decide)) hms (.there (.there hH)) (.there .here)) (fun v L' x' _ p hp=>by cases hp) ?_
     rintro v L' x' ⟨tv,wv',lv',mv,rfl,rfl,rfl⟩
     refine bgn (L':=_) (fun h s=>Ent.star (.take (.there (.there (.there (.there .here)))) (.take .here (.take .here (.take .here (.take .here .refl))))) s) (fun p hp=>by cases hp) ?_
     repeat (first | refine aM ?_ | refine aA ?_ | (apply bh_;exact rfl;exact rfl;exact gY;intro L;apply cx_;exact rfl;exact rfl))
     refine gp_ (bo_ (.there (.there .here)) gy_) ?_
     rintro ⟨⟨wa',wn',wc',rfl⟩,la',ln',lc',rfl⟩
     skip
     refine cb_ rfl rfl rfl rfl rfl trivial (ct_ (b:=nb2) (c:=0) (k:=0) (a:=0) (vs:=[.slice none 0 0,.slice none 0 0]) rfl rfl rfl (by intro w hw;simp [Value.cells] at hw;rcases hw with rfl | rfl <;> rfl) rfl (Nat.le_refl 2) .here) ?_
     rintro v' L' ⟨rfl,rfl⟩
     repeat (first | refine aA ?_ | refine ca_ ?_)
     refine xy_ (B:=mT) (I:=vm_ r n rb wb wb2 f' (.slice wa2 wn2 wc2) (.slice la2 ln2 lc2) RoS) tv trivial ⟨rfl,rfl,rfl,trivial⟩ (fun h s=>?_) rfl
     exact Ent.star (.take (.there .here) (.take (.there (.there (.there (.there .here)))) (.take (.there (.there (.there (.there .here)))) (.take (.there (.there (.there (.there .here)))) (.take (.there (.there (.there .here))) (.drop (.drop (.drop .refl)))))))) s
   ·refine kw_ rfl rfl rfl trivial cn_ ?_ ?_
    ·rintro v L' ⟨nb2,rfl,rfl⟩ p hp
     replace hp:=(List.mem_filter.1 hp).1
     simp only [List.mem_cons,List.not_mem_nil,or_false] at hp
     repeat (rcases hp with rfl | hp;· first | exact .inl rfl | exact .inr ⟨_,rfl,trivial,cg_ (vs:=[.slice wa2 wn2 wc2,.slice la2 ln2 lc2]) rfl rfl (fun q w hq=>cw_ [_] (rwb2 q w hq))⟩ | exact .inr ⟨_,rfl,trivial,bc_ rfl (cw_ [_] rw0)⟩)
     all_goals (subst hp;first | exact .inl rfl | exact .inr ⟨_,rfl,trivial,cg_ (vs:=[.slice wa2 wn2 wc2,.slice la2 ln2 lc2]) rfl rfl (fun q w hq=>cw_ [_] (rwb2 q w hq))⟩ | exact .inr ⟨_,rfl,trivial,bc_ rfl (cw_ [_] rw0)⟩)
    rintro v L' ⟨nb2,rfl,rfl⟩
    refine ja_ rfl rfl rfl trivial rfl rfl (.cons rfl (.cons rfl .nil)) (qg_ (k:=1) hn1 hn16) ?_ ?_
    ·rintro v L' x' ⟨ka,kc,rfl,rfl,rfl⟩ p hp
     replace hp:=(List.mem_filter.1 hp).1
     replace hp:=(List.mem_filter.1 hp).1
     simp only [List.mem_cons,List.not_mem_nil,or_false] at hp
     repeat (rcases hp with rfl | hp;· first | exact .inl rfl | exact .inr ⟨_,rfl,trivial,cg_ (vs:=[.slice wa2 wn2 wc2,.slice la2 ln2 lc2]) rfl rfl (fun q w hq=>cw_ [_,_] (rwb2 q w hq))⟩ | exact .inr ⟨_,rfl,trivial,bc_ rfl (cw_ [_,_] rw0)⟩)
     all_goals (subst hp;first | exact .inl rfl | exact .inr ⟨_,rfl,trivial,cg_ (vs:=[.slice wa2 wn2 wc2,.slice la2 ln2 lc2]) rfl rfl (fun q w hq=>cw_ [_,_] (rwb2 q w hq))⟩ | exact .inr ⟨_,rfl,trivial,bc_ rfl (cw_ [_,_] rw0)⟩)
    rintro v L' x' ⟨ka,kc,rfl,rfl,rfl⟩
    refine ja_ (Pd':=[]) rfl rfl (by kernel_rfl) trivial rfl rfl (.cons rfl (.cons rfl .nil)) (mp_ (kv:=.slice ka (16+2*n) kc) (dv:=.slice none 0 0) hcomes (sr_ok hn16 (by decide)) hms (.there (.there hH)) .here) (fun v L' x' _ p hp=>by cases hp) ?_
    rintro v L' x' ⟨tv,wv',lv',mv,rfl,rfl,rfl⟩
    refine bgn (L':=_) (fun h s=>Ent.star (.take (.there (.there (.there (.there .here)))) (.take .here (.take .here (.take .here (.take .here .refl))))) s) (fun p hp=>by cases hp) ?_
    repeat (first | refine aM ?_ | refine aA ?_ | (apply bh_;exact rfl;exact rfl;exact gY;intro L;apply cx_;exact rfl;exact rfl))
    refine gp_ (bo_ (.there (.there .here)) gy_) ?_
    rintro ⟨⟨wa',wn',wc',rfl⟩,la',ln',lc',rfl⟩
    skip
    refine cb_ rfl rfl rfl rfl rfl trivial (ct_ (b:=nb2) (c:=0) (k:=0) (a:=0) (vs:=[.slice none 0 0,.slice none 0 0]) rfl rfl rfl (by intro w hw;simp [Value.cells] at hw;rcases hw with rfl | rfl <;> rfl) rfl (Nat.le_refl 2) .here) ?_
    rintro v' L' ⟨rfl,rfl⟩
    repeat (first | refine aA ?_ | refine ca_ ?_)
    refine xy_ (B:=mT) (I:=vm_ r n rb wb wb2 f' (.slice wa2 wn2 wc2) (.slice la2 ln2 lc2) RoS) tv trivial ⟨rfl,rfl,rfl,trivial⟩ (fun h s=>?_) rfl
    exact Ent.star (.take (.there .here) (.take (.there (.there (.there (.there .here)))) (.take (.there (.there (.there (.there .here)))) (.take (.there (.there (.there (.there .here)))) (.take (.there (.there (.there .here))) (.drop (.drop (.drop .refl)))))))) s
  ·rintro tv _
   dsimp only [vm_]
   refine de_ (bo_ .here (bg_ (by omega))) ?_
   rintro ⟨ta1,tn1,tc1,rfl,htn1,_,hta1,hta2⟩
   have htn':tn1=(lastT n f').length:=by rw [List.length_map] at htn1;omega
   have hlt:(lastT n f').length≤100:=by unfold lastT;split <;> simp <;> omega
   repeat (first | (apply wo_po;apply bc_;exact rfl;(first | exact cw_ [_] rb0 | exact cw_ [_] rw0);exact gY) | (apply wo_po;apply fh_;exact EvL.nil;exact rfl;exact gY) | refine bb_ ?_ | (refine wR ?_;try simp only [oS]) | refine wE ?_)
   refine bt_ (.cons rfl (.cons rfl (.cons rfl (.cons rfl .nil)))) trivial (bxk hn1 hn16 (.there .here)) ?_
   rintro dv L' x' ⟨rfl,rfl⟩
   refine cm_ (bo_ .here (bg_ (by omega))) ?_
   rintro ⟨da,dn,dc,rfl,hdn,_,hda,hda2⟩
   have hdn':dn=(lastT n f').length:=by rw [List.length_map] at hdn;omega
   repeat (first | refine wM ?_)
   refine bt_ (.cons rfl (.cons rfl .nil)) trivial (mj_ (l:=lastT n f') (l':=lastT n f') hdn' htn' (by omega) (RdV.vec .here hda2 (fun h=>List.length_eq_zero_iff.1 (by rw [← hdn'];exact hda h))) (RdV.vec (.there (.there .here)) hta2 (fun h=>List.length_eq_zero_iff.1 (by rw [← htn'];exact hta1 h)))) ?_
   rintro v L' x' ⟨rfl,rfl,rfl⟩
   rw [decide_eq_true (rfl:lastT n f'=lastT n f')]
   repeat (first | refine wM ?_)
   refine bt_ .nil rfl bmt ?_
   rintro v L' x' ⟨rfl,hL1,rfl⟩
   rw [hL1]
   clear hL1
   repeat (first | refine ba_ ?_ | refine wA ?_ | refine wK ?_ | refine bw_ ?_)
   (first | refine or1 Try.func5 Try.results5 hQ rfl ?_ | refine on1 Try.func5 Try.results5 hQ rfl ?_)
   exact ⟨rfl,rfl⟩
end
end Go.Proofs.Ytodgemainhokjaa
namespace Go.PB
open Go.Conc Go.Conc.Lib Go.ConcR.Gen
open Go.ConcR (KK stA smA rd wr mk DC0)
def WgAt (ty:TypeId) (wg:Nat) (w:World) (st sm:Int):Prop:=∃ f:Nat × Nat,w.heap[wg]?=some (.cells #[.int .u64 st,.int .u32 sm] ty f)∧w.frozen? ⟨wg,0,none⟩=false∧w.frozen? ⟨wg,1,none⟩=false
section
variable {ty:TypeId} {wg:Nat} {w w':World} {st sm:Int}
theorem WgAt.cellSt (h:WgAt ty wg w st sm):w.cell? (stA wg)=some (.int .u64 st):=by obtain ⟨f,h,_⟩:=h;simp [World.cell?,stA,h]
theorem WgAt.cellSm (h:WgAt ty wg w st sm):w.cell? (smA wg)=some (.int .u32 sm):=by obtain ⟨f,h,_⟩:=h;simp [World.cell?,smA,h]
theorem WgAt.thaw (h:WgAt ty wg w st sm) (n:Nat) (hn:n<2:=by decide):w.frozen? ⟨wg,n,none⟩=false:=by
 obtain ⟨f,_,h0,h1⟩:=h
 rcases n with _ | _ | n
 ·exact h0
 ·exact h1
 ·omega
theorem WgAt.unique {st' sm':Int} (h:WgAt ty wg w st sm) (h':WgAt ty wg w st' sm'):st=st'∧sm=sm':=by
 obtain ⟨f,h,_⟩:=h
 obtain ⟨f',h',_⟩:=h'
 rw [h] at h'
 simp at h'
 exact ⟨h'.1.1,h'.1.2⟩
theorem WgAt.setSt (h:WgAt ty wg w st sm) (v:Int):WgAt ty wg (w.setCell (stA wg) (.int .u64 v)) v sm:=by
 obtain ⟨f,h,h0,h1⟩:=h
 refine ⟨f,?_,by rw [fp_];exact h0,by rw [fp_];exact h1⟩
 simp [World.setCell,stA,Array.getElem?_modify,h]
theorem WgAt.setSm (h:WgAt ty wg w st sm) (v:Int):WgAt ty wg (w.setCell (smA wg) (.int .u32 v)) st v:=by
 obtain ⟨f,h,h0,h1⟩:=h
 refine ⟨f,?_,by rw [fp_];exact h0,by rw [fp_];exact h1⟩
 simp [World.setCell,smA,Array.getElem?_modify,h]
theorem WgAt.of_heap (h:WgAt ty wg w st sm) (e:w'.heap[wg]?=w.heap[wg]?):WgAt ty wg w' st sm:=by
 obtain ⟨f,h,h0,h1⟩:=h
 have hf:∀ o,w'.frozen? ⟨wg,o,none⟩=w.frozen? ⟨wg,o,none⟩:=fun o=>by unfold World.frozen?;rw [e]
 exact ⟨f,e.trans h,(hf 0).trans h0,(hf 1).trans h1⟩
def jh_ (ty:TypeId) (Wg:Nat) (w:World):Prop:=∃ st sm,WgAt ty Wg w st sm
end
def RL (ty:TypeId) (Wg:Nat) (w w₁:World):Prop:=jh_ ty Wg w→jh_ ty Wg w₁
theorem bww {ty:TypeId} {Wg:Nat} {w:World} (h:jh_ ty Wg w):∃ v,w.cell? ⟨Wg,0,none⟩=some v:=let ⟨_,_,x⟩:=h;⟨_,WgAt.cellSt x⟩
section
variable (P:Program) (ty:TypeId) (Wg:Nat)
def Zg (Stop:Goroutine→World→Prop) (m:Nat) (g:Goroutine) (w:World):Prop:=Goes P false (RL ty Wg) DC0 Stop m g w
def Z4 (g:Goroutine) (w:World):Prop :=
 g.status=.running∧mayWake P g=true∧(WgAt ty Wg w 0 0→∃ g' q,stepG P false g w=.go g' (w.setCell (smA Wg) (.int .u32 1)) (semEvents (smA Wg))∧QuitsD P q 1 g')
def Z3 (g:Goroutine) (w:World):Prop :=
 g.status=.running∧(WgAt ty Wg w 1 0→∃ g' m,stepG P false g w=.go g' (w.setCell (stA Wg) (.int .u64 0)) #[wr (stA Wg)]∧Zg P ty Wg (Z4 P ty Wg) m g' (w.setCell (stA Wg) (.int .u64 0)))
def Z2 (g:Goroutine) (w:World):Prop :=
 g.status=.running∧(WgAt ty Wg w 1 0→∃ g' m,stepG P false g w=.go g' w #[rd (stA Wg)]∧Zg P ty Wg (Z3 P ty Wg) m g' w)
def Z1 (g:Goroutine) (w:World):Prop :=
 g.status=.running∧∀ v wt:Nat,wt≤1→v<2147483647→WgAt ty Wg w ((v+1)*KK+wt) 0 →
  ∃ g',stepG P false g w=.go g' (w.setCell (stA Wg) (.int .u64 (v*KK+wt))) #[rd (stA Wg),wr (stA Wg)] ∧
   ((v=0∧wt=1)→∃ m,Zg P ty Wg (Z2 P ty Wg) m g' (w.setCell (stA Wg) (.int .u64 (v*KK+wt))))∧(¬ (v=0∧wt=1)→∃ q,QuitsD P q 1 g')
def ZK (g:Goroutine) (w:World):Prop :=
 g.status=.running∧∃ g' m,stepG P false g w=.go g' w #[mk .disable]∧Zg P ty Wg (Z1 P ty Wg) m g' w
def ZR (g:Goroutine) (w:World):Prop :=
 g.status=.running∧∃ g' m,stepG P false g w=.go g' w #[mk (.releaseMerge (stA Wg))]∧Zg P ty Wg (ZK P ty Wg) m g' w
end
end Go.PB
namespace Go.PB
open Go.Conc Go.Conc.Lib Go.ConcR.Gen
open Go.ConcR (KK stA smA rd wr mk DC0)
theorem ze_ {P:Program}:∀ {n d:Nat} {g:Goroutine},QuitsD P n d g→QuitsD P (n+1) d g
 | 0,_,_,h=>.inl h
 | _+1,_,_,h=>h.imp id fun ⟨hs,g',es,hm,hst,hq⟩=>⟨hs,g',es,hm,hst,ze_ hq⟩
theorem pj_ {P:Program} {n n' d:Nat} {g:Goroutine} (h:QuitsD P n d g) (hn:n≤n'):QuitsD P n' d g:=by
 induction hn with
 | refl=>exact h
 | step _ ih=>exact ze_ ih
set_option maxRecDepth 100000 in
set_option maxHeartbeats 8000000 in
theorem cgp [Go.ConcR.Payload] {P:Program} {L:WgLink} (H:WgLib P L) {Wg:Nat} {b₀:Frame} {a₀:Act} {ops₀:Array Oper} {i₀:Nat} {rest₀:List Nat} {k₀:List Item} {cs:List Frame} {qt:Nat}
  (hT:QuitsD P qt 0 (G (b₀.at (a₀.put ((ops₀[i₀]?).bind (·.dst)) (.tuple #[])) (.inRegion ops₀ rest₀::k₀)) cs)) (w:World) (hK:jh_ L.tWg Wg w) :
  Zg P L.tWg Wg (ZR P L.tWg Wg) 20 (G ((Go.Conc.base L.add).at ⟨#[.pointer (some ⟨Wg,0,none⟩),.int .i64 (-1)]++Array.replicate 115 undef,[]⟩ [.code (body_add L)]) (b₀.at a₀ (.inRegion ops₀ (i₀::rest₀)::k₀)::cs)) w:=by
 lib_facts
 simp only [body_add,addFn,Option.getD_some,Array.replicate_succ,Array.replicate_zero]
 unfold Zg
 have key:∀ {w w₁:World},jh_ L.tWg Wg w→RL L.tWg Wg w w₁→jh_ L.tWg Wg w₁:=fun h r=>r h
 walk_nrm
 repeat (first | u_c stepG_seq key hK | u_c stepG_region_end key hK | u_c stepG_skip key hK | u_reg key hK | u_skip key hK | u_op key hK | u_cond true key hK | u_cond false key hK | u_c stepG_ret' key hK | u_c stepG_block key hK | u_c stepG_loop key hK | u_c stepG_end key hK | u_defer key hK | u_leave1 H.f_uAdd key hK | u_leave1 H.f_uLoad key hK | u_leave0 H.f_uStore key hK | u_call H.f_uAdd (nm_uAdd L) uAddFn key hK | u_call H.f_uLoad (nm_uLoad L) uLoadFn key hK | u_call H.f_uStore (nm_uStore L) uStoreFn key hK | u_bub key hK)
 u_conv H.underlying_tWgP H.room_tWg (bww hK).choose_spec key hK
 refine Goes.stop (fun w₁ h₁=>?_)
 replace hK:=key hK h₁
 clear h₁
 refine ⟨rfl,_,30,stepG_markAt .releaseMerge (by simp) rfl rfl (by k_ne) rfl H.f_relMerge (x_relMerge_n L) (x_relMerge_b L) (x_relMerge_x L) (x_relMerge_f L) (by simp [Act.eval,stA]),?_⟩
 unfold Zg
 walk_nrm
 repeat (first | u_c stepG_seq key hK | u_c stepG_region_end key hK | u_c stepG_skip key hK | u_reg key hK | u_skip key hK | u_op key hK | u_cond true key hK | u_cond false key hK | u_c stepG_ret' key hK | u_c stepG_block key hK | u_c stepG_loop key hK | u_c stepG_end key hK | u_defer key hK | u_leave1 H.f_uAdd key hK | u_leave1 H.f_uLoad key hK | u_leave0 H.f_uStore key hK | u_call H.f_uAdd (nm_uAdd L) uAddFn key hK | u_call H.f_uLoad (nm_uLoad L) uLoadFn key hK | u_call H.f_uStore (nm_uStore L) uStoreFn key hK | u_bub key hK)
 refine Goes.stop (fun w₁ h₁=>?_)
 replace hK:=key hK h₁
 clear h₁
 refine ⟨rfl,_,80,stepG_mark0 .disable (by simp) rfl rfl (by k_ne) rfl H.f_disable (x_disable_n L) (x_disable_b L) (x_disable_x L) (x_disable_f L),?_⟩
 unfold Zg
 walk_nrm
 repeat (first | u_c stepG_seq key hK | u_c stepG_region_end key hK | u_c stepG_skip key hK | u_reg key hK | u_skip key hK | u_op key hK | u_cond true key hK | u_cond false key hK | u_c stepG_ret' key hK | u_c stepG_block key hK | u_c stepG_loop key hK | u_c stepG_end key hK | u_defer key hK | u_leave1 H.f_uAdd key hK | u_leave1 H.f_uLoad key hK | u_leave0 H.f_uStore key hK | u_call H.f_uAdd (nm_uAdd L) uAddFn key hK | u_call H.f_uLoad (nm_uLoad L) uLoadFn key hK | u_call H.f_uStore (nm_uStore L) uStoreFn key hK | u_bub key hK)
 refine Goes.stop (fun w₁ h₁=>?_)
 clear h₁ hK
 refine ⟨rfl,fun v wt hwt hv hw=>?_⟩
 have e0:IntKind.u64.wrap (KK+18446744069414584320)=0:=by decide
 have e1:IntKind.u64.wrap (KK+1+18446744069414584320)=1:=by decide
 rcases Nat.eq_zero_or_pos v with rfl | hvp <;> (obtain rfl | rfl:wt=0∨wt=1:=by omega)
 ·-- nobody is left,nobody waits
  replace hw:WgAt L.tWg Wg w₁ KK 0:=by simpa using hw
  have z:((0:Nat):Int)*KK+((0:Nat):Int)=0:=by simp
  rw [z]
  refine ⟨_,(stepG_add_atomic rfl rfl (by k_ne) rfl H.f_addU64 (x_addU64_n L) (x_addU64_b L) (x_addU64_x L) .u64 (x_addU64_f L) rfl rfl (WgAt.cellSt hw) (WgAt.thaw hw 0)).trans (by rw [e0];rfl),fun hl=>absurd hl.2 (by decide),fun _=>⟨qt+200,?_⟩⟩
  clear hw
  walk_nrm
  q_val (.int .u64 0)
  q_c stepG_region_end
  q_c stepG_ret'
  q_leave1 H.f_uAdd
  q_val (.int .u64 0)
  q_c stepG_region_end
  q_c stepG_seq
  q_c stepG_seq
  q_reg
  q_val (.int .u64 0)
  q_val (.int .u64 0)
  q_val (.bool false)
  q_val (.bool false)
  q_skip
  q_skip
  q_val (.bool false)
  q_c stepG_region_end
  q_cond false
  q_c stepG_skip
  q_c stepG_seq
  q_reg
  q_val (.int .u64 0)
  q_val (.int .u64 0)
  q_val (.int .i32 0)
  q_val (.int .i32 0)
  q_c stepG_region_end
  q_c stepG_seq
  q_reg
  q_val (.int .u64 0)
  q_val (.int .u64 0)
  q_val (.int .u32 0)
  q_val (.int .u32 0)
  q_c stepG_region_end
  q_c stepG_seq
  q_c stepG_seq
  q_reg
  q_val (.bool true)
  q_val (.int .i64 (-1))
  q_val (.bool false)
  q_val (.bool false)
  q_val (.bool false)
  q_skip
  q_skip
  q_skip
  q_skip
  q_val (.bool false)
  q_c stepG_region_end
  q_cond false
  q_c stepG_skip
  q_c stepG_seq
  q_c stepG_seq
  q_reg
  q_val (.int .i32 0)
  q_val (.bool false)
  q_c stepG_region_end
  q_cond false
  q_c stepG_skip
  q_c stepG_seq
  q_c stepG_seq
  q_reg
  q_val (.int .u32 0)
  q_val (.bool false)
  q_val (.bool false)
  q_skip
  q_skip
  q_val (.bool false)
  q_val (.bool false)
  q_skip
  q_skip
  q_skip
  q_skip
  q_val (.bool false)
  q_c stepG_region_end
  q_cond false
  q_c stepG_skip
  q_c stepG_seq
  q_c stepG_seq
  q_reg
  q_val (.int .i32 0)
  q_val (.bool false)
  q_val (.bool false)
  q_val (.int .u32 0)
  q_val (.bool true)
  q_val (.bool true)
  q_c stepG_region_end
  q_cond true
  q_c stepG_ret'
  q_enable
  q_leave0 H.f_add
  exact pj_ hT (by omega)
 ·-- nobody is left,the starter waits: the last one
  replace hw:WgAt L.tWg Wg w₁ (KK+1) 0:=by simpa using hw
  have z:((0:Nat):Int)*KK+((1:Nat):Int)=1:=by simp
  rw [z]
  refine ⟨_,(stepG_add_atomic rfl rfl (by k_ne) rfl H.f_addU64 (x_addU64_n L) (x_addU64_b L) (x_addU64_x L) .u64 (x_addU64_f L) rfl rfl (WgAt.cellSt hw) (WgAt.thaw hw 0)).trans (by rw [e1];rfl),fun _=>⟨150,?_⟩,fun hl=>absurd ⟨rfl,rfl⟩ hl⟩
  have hK:jh_ L.tWg Wg (w₁.setCell (stA Wg) (.int .u64 1)):=⟨_,_,WgAt.setSt hw 1⟩
  clear hw
  unfold Zg
  walk_nrm
  u_op key hK
  u_c stepG_region_end key hK
  u_c stepG_ret' key hK
  u_leave1 H.f_uAdd key hK
  u_op key hK
  u_c stepG_region_end key hK
  u_c stepG_seq key hK
  u_c stepG_seq key hK
  u_reg key hK
  u_op key hK
  u_op key hK
  u_op key hK
  u_op key hK
  u_skip key hK
  u_skip key hK
  u_op key hK
  u_c stepG_region_end key hK
  u_cond false key hK
  u_c stepG_skip key hK
  u_c stepG_seq key hK
  u_reg key hK
  u_op key hK
  u_op key hK
  u_op key hK
  u_op key hK
  u_c stepG_region_end key hK
  u_c stepG_seq key hK
  u_reg key hK
  u_op key hK
  u_op key hK
  u_op key hK
  u_op key hK
  u_c stepG_region_end key hK
  u_c stepG_seq key hK
  u_c stepG_seq key hK
  u_reg key hK
  u_op key hK
  u_op key hK
  u_op key hK
  u_op key hK
  u_op key hK
  u_skip key hK
  u_skip key hK
  u_skip key hK
  u_skip key hK
  u_op key hK
  u_c stepG_region_end key hK
  u_cond false key hK
  u_c stepG_skip key hK
  u_c stepG_seq key hK
  u_c stepG_seq key hK
  u_reg key hK
  u_op key hK
  u_op key hK
  u_c stepG_region_end key hK
  u_cond false key hK
  u_c stepG_skip key hK
  u_c stepG_seq key hK
  u_c stepG_seq key hK
  u_reg key hK
  u_op key hK
  u_op key hK
  u_op key hK
  u_op key hK
  u_op key hK
  u_op key hK
  u_op key hK
  u_skip key hK
  u_skip key hK
  u_skip key hK
  u_skip key hK
  u_op key hK
  u_c stepG_region_end key hK
  u_cond false key hK
  u_c stepG_skip key hK
  u_c stepG_seq key hK
  u_c stepG_seq key hK
  u_reg key hK
  u_op key hK
  u_op key hK
  u_op key hK
  u_op key hK
  u_op key hK
  u_op key hK
  u_c stepG_region_end key hK
  u_cond false key hK
  u_c stepG_skip key hK
  u_c stepG_seq key hK
  u_c stepG_seq key hK
  u_reg key hK
  u_op key hK
  u_op key hK
  u_op key hK
  u_call H.f_uLoad (nm_uLoad L) uLoadFn key hK
  u_c stepG_seq key hK
  u_reg key hK
  u_op key hK
  u_c stepG_region_end key hK
  u_c stepG_seq key hK
  u_reg key hK
  u_op key hK
  u_op key hK
  u_op key hK
  refine Goes.stop (fun w₂ h₂=>?_)
  clear h₂ hK
  refine ⟨rfl,fun hw=>⟨_,60,stepG_load_atomic rfl rfl (by k_ne) rfl H.f_loadU64 (x_loadU64_n L) (x_loadU64_b L) (x_loadU64_x L) .u64 (x_loadU64_f L) rfl (WgAt.cellSt hw),?_⟩⟩
  have hK:jh_ L.tWg Wg w₂:=⟨_,_,hw⟩
  clear hw
  unfold Zg
  walk_nrm
  u_op key hK
  u_c stepG_region_end key hK
  u_c stepG_ret' key hK
  u_leave1 H.f_uLoad key hK
  u_op key hK
  u_op key hK
  u_c stepG_region_end key hK
  u_cond false key hK
  u_c stepG_skip key hK
  u_c stepG_seq key hK
  u_reg key hK
  u_op key hK
  u_op key hK
  u_op key hK
  u_call H.f_uStore (nm_uStore L) uStoreFn key hK
  u_reg key hK
  u_op key hK
  u_op key hK
  u_op key hK
  u_op key hK
  refine Goes.stop (fun w₃ h₃=>?_)
  clear h₃ hK
  refine ⟨rfl,fun hw=>⟨_,60,stepG_store_atomic rfl rfl (by k_ne) rfl H.f_storeU64 (x_storeU64_n L) (x_storeU64_b L) (x_storeU64_x L) (x_storeU64_f L) rfl rfl (WgAt.cellSt hw) (WgAt.thaw hw 0),?_⟩⟩
  have hK:jh_ L.tWg Wg (w₃.setCell (stA Wg) (.int .u64 0)):=⟨_,_,WgAt.setSt hw 0⟩
  clear hw
  unfold Zg
  walk_nrm
  u_c stepG_region_end key hK
  u_c stepG_end key hK
  u_leave0 H.f_uStore key hK
  u_c stepG_region_end key hK
  u_c stepG_seq key hK
  u_c stepG_seq key hK
  u_reg key hK
  u_op key hK
  u_c stepG_region_end key hK
  u_cond false key hK
  u_c stepG_skip key hK
  u_c stepG_block key hK
  u_c stepG_loop key hK
  u_c stepG_seq key hK
  u_c stepG_seq key hK
  u_reg key hK
  u_op key hK
  u_op key hK
  u_c stepG_region_end key hK
  u_cond true key hK
  u_c stepG_skip key hK
  u_c stepG_seq key hK
  u_c stepG_block key hK
  u_reg key hK
  u_op key hK
  u_op key hK
  u_op key hK
  refine Goes.stop (fun w₄ h₄=>?_)
  clear h₄ hK
  refine ⟨rfl,mayWake_entry rfl rfl H.f_semrelease (x_semrelease_b L),fun hw=>⟨_,qt+40,(stepG_semrelease rfl rfl (by k_ne) rfl H.f_semrelease (x_semrelease_n L) (x_semrelease_b L) (x_semrelease_x L) (x_semrelease_f L) (by simp [Act.eval,smA]) (WgAt.cellSm hw) (WgAt.thaw hw 1)).trans (by rfl),?_⟩⟩
  clear hw
  walk_nrm
  q_c stepG_region_end
  q_c stepG_inBlock
  q_reg
  q_val (.int .u32 1)
  q_val (.int .u32 0)
  q_val (.int .u32 0)
  q_c stepG_region_end
  q_c stepG_inLoop
  q_c stepG_seq
  q_c stepG_seq
  q_reg
  q_val (.int .u32 0)
  q_val (.bool false)
  q_c stepG_region_end
  q_cond false
  q_exit
  q_c stepG_end
  q_enable
  q_leave0 H.f_add
  exact pj_ hT (by omega)
 ·-- some are left,nobody waits
  replace hw:WgAt L.tWg Wg w₁ (((v:Nat)+1)*KK+0) 0:=by simpa using hw
  have z:((v:Nat):Int)*KK+((0:Nat):Int)=(v:Int)*KK+0:=by simp
  rw [z]
  have eS:IntKind.u64.wrap (((v:Nat)+1)*KK+0+18446744069414584320)=(v:Int)*KK+0:=by rw [IntKind.wrap_u64];simp only [KK];omega
  obtain ⟨S,hS⟩:∃ S:Int,S=(v:Int)*KK+0:=⟨_,rfl⟩
  rw [← hS] at eS ⊢
  have a1:S/4294967296=(v:Int):=by rw [hS];simp only [KK];omega
  have a2:0≤S∧S<9223372036854775808:=by rw [hS];simp only [KK];omega
  have b1:bits .and .u64 S 2147483648=0:=by rw [hS];have:=Go.ConcN.st_flag v 0 (by omega) (by omega);simpa [KK] using this
  have b2:bits .and .u64 S 2147483647=0:=by rw [hS];have:=Go.ConcN.st_waiters v 0 (by omega) (by omega);simpa [KK] using this
  clear hS z
  refine ⟨_,(stepG_add_atomic rfl rfl (by k_ne) rfl H.f_addU64 (x_addU64_n L) (x_addU64_b L) (x_addU64_x L) .u64 (x_addU64_f L) rfl rfl (WgAt.cellSt hw) (WgAt.thaw hw 0)).trans (by rw [eS];rfl),fun hl=>absurd hl.1 (by omega),fun _=>⟨qt+150,?_⟩⟩
  clear hw
  walk_nrm
  q_vn (.int .u64 S)
  q_c stepG_region_end
  q_c stepG_ret'
  q_leave1 H.f_uAdd
  q_vn (.int .u64 S)
  q_c stepG_region_end
  q_c stepG_seq
  q_c stepG_seq
  q_reg
  q_vn (.int .u64 S)
  q_vn (.int .u64 0)
  q_vn (.bool false)
  q_vn (.bool false)
  q_skip
  q_skip
  q_vn (.bool false)
  q_c stepG_region_end
  q_cond false
  q_c stepG_skip
  q_c stepG_seq
  q_reg
  q_vn (.int .u64 S)
  q_vn (.int .u64 (v:Int))
  q_vn (.int .i32 (v:Int))
  q_vn (.int .i32 (v:Int))
  q_c stepG_region_end
  q_c stepG_seq
  q_reg
  q_vn (.int .u64 S)
  q_vn (.int .u64 0)
  q_vn (.int .u32 0)
  q_vn (.int .u32 0)
  q_c stepG_region_end
  q_c stepG_seq
  q_c stepG_seq
  q_reg
  q_vn (.bool true)
  q_vn (.int .i64 (-1))
  q_vn (.bool false)
  q_vn (.bool false)
  q_vn (.bool false)
  q_skip
  q_skip
  q_skip
  q_skip
  q_vn (.bool false)
  q_c stepG_region_end
  q_cond false
  q_c stepG_skip
  q_c stepG_seq
  q_c stepG_seq
  q_reg
  q_vn (.int .i32 (v:Int))
  q_vn (.bool false)
  q_c stepG_region_end
  q_cond false
  q_c stepG_skip
  q_c stepG_seq
  q_c stepG_seq
  q_reg
  q_vn (.int .u32 0)
  q_vn (.bool false)
  q_vn (.bool false)
  q_skip
  q_skip
  q_vn (.bool false)
  q_vn (.bool false)
  q_skip
  q_skip
  q_skip
  q_skip
  q_vn (.bool false)
  q_c stepG_region_end
  q_cond false
  q_c stepG_skip
  q_c stepG_seq
  q_c stepG_seq
  q_reg
  q_vn (.int .i32 (v:Int))
  q_vn (.bool true)
  q_vn (.bool true)
  q_skip
  q_skip
  q_vn (.bool true)
  q_c stepG_region_end
  q_cond true
  q_c stepG_ret'
  q_enable
  q_leave0 H.f_add
  exact pj_ hT (by omega)
 ·-- some are left,the starter waits
  replace hw:WgAt L.tWg Wg w₁ (((v:Nat)+1)*KK+1) 0:=by simpa using hw
  have z:((v:Nat):Int)*KK+((1:Nat):Int)=(v:Int)*KK+1:=by simp
  rw [z]
  have eS:IntKind.u64.wrap (((v:Nat)+1)*KK+1+18446744069414584320)=(v:Int)*KK+1:=by rw [IntKind.wrap_u64];simp only [KK];omega
  obtain ⟨S,hS⟩:∃ S:Int,S=(v:Int)*KK+1:=⟨_,rfl⟩
  rw [← hS] at eS ⊢
  have a1:S/4294967296=(v:Int):=by rw [hS];simp only [KK];omega
  have a2:0≤S∧S<9223372036854775808:=by rw [hS];simp only [KK];omega
  have b1:bits .and .u64 S 2147483648=0:=by rw [hS];have:=Go.ConcN.st_flag v 1 (by omega) (by omega);simpa [KK] using this
  have b2:bits .and .u64 S 2147483647=1:=by rw [hS];have:=Go.ConcN.st_waiters v 1 (by omega) (by omega);simpa [KK] using this
  clear hS z
  refine ⟨_,(stepG_add_atomic rfl rfl (by k_ne) rfl H.f_addU64 (x_addU64_n L) (x_addU64_b L) (x_addU64_x L) .u64 (x_addU64_f L) rfl rfl (WgAt.cellSt hw) (WgAt.thaw hw 0)).trans (by rw [eS];rfl),fun hl=>absurd hl.1 (by omega),fun _=>⟨qt+150,?_⟩⟩
  clear hw
  walk_nrm
  q_vn (.int .u64 S)
  q_c stepG_region_end
  q_c stepG_ret'
  q_leave1 H.f_uAdd
  q_vn (.int .u64 S)
  q_c stepG_region_end
  q_c stepG_seq
  q_c stepG_seq
  q_reg
  q_vn (.int .u64 S)
  q_vn (.int .u64 0)
  q_vn (.bool false)
  q_vn (.bool false)
  q_skip
  q_skip
  q_vn (.bool false)
  q_c stepG_region_end
  q_cond false
  q_c stepG_skip
  q_c stepG_seq
  q_reg
  q_vn (.int .u64 S)
  q_vn (.int .u64 (v:Int))
  q_vn (.int .i32 (v:Int))
  q_vn (.int .i32 (v:Int))
  q_c stepG_region_end
  q_c stepG_seq
  q_reg
  q_vn (.int .u64 S)
  q_vn (.int .u64 1)
  q_vn (.int .u32 1)
  q_vn (.int .u32 1)
  q_c stepG_region_end
  q_c stepG_seq
  q_c stepG_seq
  q_reg
  q_vn (.bool true)
  q_vn (.int .i64 (-1))
  q_vn (.bool false)
  q_vn (.bool false)
  q_vn (.bool false)
  q_skip
  q_skip
  q_skip
  q_skip
  q_vn (.bool false)
  q_c stepG_region_end
  q_cond false
  q_c stepG_skip
  q_c stepG_seq
  q_c stepG_seq
  q_reg
  q_vn (.int .i32 (v:Int))
  q_vn (.bool false)
  q_c stepG_region_end
  q_cond false
  q_c stepG_skip
  q_c stepG_seq
  q_c stepG_seq
  q_reg
  q_vn (.int .u32 1)
  q_vn (.bool true)
  q_vn (.bool true)
  q_vn (.int .i64 (-1))
  q_vn (.bool false)
  q_vn (.bool false)
  q_vn (.bool false)
  q_skip
  q_skip
  q_skip
  q_skip
  q_vn (.bool false)
  q_c stepG_region_end
  q_cond false
  q_c stepG_skip
  q_c stepG_seq
  q_c stepG_seq
  q_reg
  q_vn (.int .i32 (v:Int))
  q_vn (.bool true)
  q_vn (.bool true)
  q_skip
  q_skip
  q_vn (.bool true)
  q_c stepG_region_end
  q_cond true
  q_c stepG_ret'
  q_enable
  q_leave0 H.f_add
  exact pj_ hT (by omega)
end Go.PB
namespace Go.PB
open Go.Conc Go.Conc.Lib Go.ConcR.Gen
open Go.ConcR (KK stA smA rd wr mk DC0)
set_option maxRecDepth 100000 in
theorem bzf [Go.ConcR.Payload] {P:Program} {L:WgLink} (H:WgLib P L) {Wg:Nat} {b₀:Frame} {a₀:Act} {ops₀:Array Oper} {i₀:Nat} {rest₀:List Nat} {k₀:List Item} {cs:List Frame} {qt:Nat}
  (hT:QuitsD P qt 0 (G (b₀.at (a₀.put ((ops₀[i₀]?).bind (·.dst)) (.tuple #[])) (.inRegion ops₀ rest₀::k₀)) cs)) (w:World) (hK:jh_ L.tWg Wg w) :
  Zg P L.tWg Wg (ZR P L.tWg Wg) 20 (G ((Go.Conc.base L.add).at ⟨#[.pointer (some ⟨Wg,0,none⟩),.int .i64 (-1),undef,undef,undef,undef,undef,undef,undef,undef,undef,undef,undef,undef,undef,undef,undef,undef,undef,undef,undef,undef,undef,undef,undef,undef,undef,undef,undef,undef,undef,undef,undef,undef,undef,undef,undef,undef,undef,undef,undef,undef,undef,undef,undef,undef,undef,undef,undef,undef,undef,undef,undef,undef,undef,undef,undef,undef,undef,undef,undef,undef,undef,undef,undef,undef,undef,undef,undef,undef,undef,undef,undef,undef,undef,undef,undef,undef,undef,undef,undef,undef,undef,undef,undef,undef,undef,undef,undef,undef,undef,undef,undef,undef,undef,undef,undef,undef,undef,undef,undef,undef,undef,undef,undef,undef,undef,undef,undef,undef,undef,undef,undef,undef,undef,undef,undef],[]⟩ [.code (body_add L)]) (b₀.at a₀ (.inRegion ops₀ (i₀::rest₀)::k₀)::cs)) w:=by
 have e:(#[.pointer (some ⟨Wg,0,none⟩),.int .i64 (-1),undef,undef,undef,undef,undef,undef,undef,undef,undef,undef,undef,undef,undef,undef,undef,undef,undef,undef,undef,undef,undef,undef,undef,undef,undef,undef,undef,undef,undef,undef,undef,undef,undef,undef,undef,undef,undef,undef,undef,undef,undef,undef,undef,undef,undef,undef,undef,undef,undef,undef,undef,undef,undef,undef,undef,undef,undef,undef,undef,undef,undef,undef,undef,undef,undef,undef,undef,undef,undef,undef,undef,undef,undef,undef,undef,undef,undef,undef,undef,undef,undef,undef,undef,undef,undef,undef,undef,undef,undef,undef,undef,undef,undef,undef,undef,undef,undef,undef,undef,undef,undef,undef,undef,undef,undef,undef,undef,undef,undef,undef,undef,undef,undef,undef,undef]:Array Value)=#[.pointer (some ⟨Wg,0,none⟩),.int .i64 (-1)]++Array.replicate 115 undef:=by kernel_rfl
 rw [e]
 exact cgp H hT w hK
set_option maxHeartbeats 8000000 in
set_option maxRecDepth 100000 in
theorem bxm [Go.ConcR.Payload] {P:Program} {L:WgLink} (H:WgLib P L) {Wg:Nat} {c:Frame} {cs:List Frame} {qt:Nat} (hcm:c.mode=.returning) (hT:QuitsD P qt 0 (G c cs)) (w:World) (hK:jh_ L.tWg Wg w) :
  Zg P L.tWg Wg (ZR P L.tWg Wg) 23 (G ((baseD L.done).at ⟨#[.pointer (some ⟨Wg,0,none⟩),undef,undef,undef],[]⟩ [.code (body_done L)]) (c::cs)) w:=by
 lib_facts
 have hA:=@bzf _ P L H Wg
 unfold Zg at hA ⊢
 have key:∀ {w w₁:World},jh_ L.tWg Wg w→RL L.tWg Wg w w₁→jh_ L.tWg Wg w₁:=fun h r=>r h
 simp only [body_done,body_add,doneFn,addFn,Option.getD_some] at hA ⊢
 u_reg key hK
 u_op key hK
 u_in key hK
 refine goes_call rfl rfl (by k_ne) rfl H.f_add (nm_add L) rfl ⟨by u_nil,?_⟩
 walk_nrmf addFn
 refine hA (qt:=qt+3) ?_ _ hK
 q_c stepG_region_end
 q_c stepG_end
 exact QuitsD.leaveD rfl rfl H.f_done rfl hcm hT
theorem bqs {P:Program} {L:WgLink} (H:WgLib P L) {v:Value}:Frame.enter P L.done #[v] .deferred=(baseD L.done).at ⟨#[v,undef,undef,undef],[]⟩ [.code (body_done L)]:=by
 simp [Frame.enter,H.f_done,body_done,doneFn]
 rfl
end Go.PB
namespace Go.PB
open Go.Conc Go.Conc.Lib
open Go.ConcR (KK stA smA rd wr mk DC0)
section
variable {P:Program} {main:Bool} {fr:Frame} {cs:List Frame} {o:Oper} {w w':World}
theorem sp_ (a:AtOp fr o):∃ ops i l k,fr=mkFr ⟨fr.fn,fr.kind⟩ fr.tmps fr.defers (.inRegion ops (i::l)::k)∧ops[i]?=some o∧Region.wanted o (yielded ops fr.tmps)=true∧fr.eval=evT fr.tmps:=by
 obtain ⟨hm,hr,ops,i,l,k,htd,ho,hw⟩:=a
 refine ⟨ops,i,l,k,?_,ho,hw,?_⟩
 ·cases fr;simp only at hm hr htd;subst hm;subst hr;subst htd;rfl
 ·funext q;cases q <;> rfl
theorem pf_ {v:Value} {es:Array Event} (a:AtOp fr o) (ne:fr.kind≠.early) (hr:(execOp fr.eval o).runT P w #[]=(.ok (.value v) w',es)) :
  stepG P main (G fr cs) w=.go (G (fr.finish v) cs) w' (seen P fr.fn es):=by
 obtain ⟨ops,i,l,k,e,ho,hw,he⟩:=sp_ a
 have hs:=qa_ (P:=P) (main:=main) (b:=⟨fr.fn,fr.kind⟩) (t:=fr.tmps) (d:=fr.defers) (l:=l) (k:=k) (cs:=cs) (w:=w) ho hw
 rw [← e] at hs
 rw [hs]
 rw [he] at hr
 have hk:(fr.kind == .early)=false:=by cases hx:fr.kind <;> first | rfl | exact absurd hx ne
 have hk':((mkFr ⟨fr.fn,fr.kind⟩ fr.tmps fr.defers (.inRegion ops (i::l)::k)).kind == .early)=false:=hk
 simp only [stepG.apply,if_true,hr,hk,GStep.after,Bool.false_eq_true,if_false,Array.append_empty]
 rfl
theorem bcf {cases:Array CommCase} {bl:Bool} {sh:CommShape} (a:AtOp fr o) (hr:(execOp fr.eval o).runT P w #[]=(.ok (.comm cases bl sh) w,#[])) :
  stepG P main (G fr cs) w=.comm (G fr cs) cases bl sh w #[]:=by
 obtain ⟨ops,i,l,k,e,ho,hw,he⟩:=sp_ a
 have hs:=qa_ (P:=P) (main:=main) (b:=⟨fr.fn,fr.kind⟩) (t:=fr.tmps) (d:=fr.defers) (l:=l) (k:=k) (cs:=cs) (w:=w) ho hw
 rw [← e] at hs
 rw [hs]
 rw [he] at hr
 simp only [stepG.apply,if_true,hr,GStep.after,ite_self]
 rfl
theorem yo_ {d:Deferred} {f:Fn} {cap:Array Value} (hd:d.target=.fn f cap) (a:AtOp fr o) (hr:(execOp fr.eval o).runT P w #[]=(.ok (.spawn d) w,#[])) :
  stepG P main (G fr cs) w=.spawn (G (fr.finish undef) cs) (G (goFr P d) []) w #[]:=by
 obtain ⟨ops,i,l,k,e,ho,hw,he⟩:=sp_ a
 have hs:=qa_ (P:=P) (main:=main) (b:=⟨fr.fn,fr.kind⟩) (t:=fr.tmps) (d:=fr.defers) (l:=l) (k:=k) (cs:=cs) (w:=w) ho hw
 rw [← e] at hs
 rw [hs]
 rw [he] at hr
 simp only [stepG.apply,if_true,hr,GStep.after,ite_self,hd,Bool.and_false,Bool.false_and,Bool.false_eq_true,if_false]
 rfl
theorem bnz {es:Array Event} (a:AtOp fr o) (hr:(execOp fr.eval o).runT P w #[]=(.halt .blocked w',es)) :
  stepG P main (G fr cs) w=.go { G fr cs with status:=.blocked } w' #[]:=by
 obtain ⟨ops,i,l,k,e,ho,hw,he⟩:=sp_ a
 have hs:=qa_ (P:=P) (main:=main) (b:=⟨fr.fn,fr.kind⟩) (t:=fr.tmps) (d:=fr.defers) (l:=l) (k:=k) (cs:=cs) (w:=w) ho hw
 rw [← e] at hs
 rw [hs]
 rw [he] at hr
 simp only [stepG.apply,if_true,hr,GStep.after,ite_self]
 rfl
end
structure Runs (g:Goroutine) (fr:Frame) (cs:List Frame):Prop where
 frame:g.frame=fr
 callers:g.callers=cs
 status:g.status=.running
 dying:g.dying=none
structure Parks (g:Goroutine) (fr:Frame) (cs:List Frame) (cases:Array CommCase) (sh:CommShape):Prop where
 frame:g.frame=fr
 callers:g.callers=cs
 status:g.status=.blocked
 dying:g.dying=none
 offers:g.offers=some (cases,sh)
structure Sleeps (g:Goroutine) (fr:Frame) (cs:List Frame):Prop where
 frame:g.frame=fr
 callers:g.callers=cs
 status:g.status=.blocked
 dying:g.dying=none
 offers:g.offers=none
theorem Runs.step {P:Program} {main:Bool} {g:Goroutine} {fr:Frame} {cs:List Frame} (r:Runs g fr cs) (w:World):stepG P main g w=stepG P main (G fr cs) w :=
 stepG_same r.frame r.callers r.dying w
theorem ko_ {fr:Frame} {cs:List Frame}:Runs (G fr cs) fr cs:=⟨rfl,rfl,rfl,rfl⟩
theorem Parks.eq {g:Goroutine} {fr:Frame} {cs:List Frame} {cases:Array CommCase} {sh:CommShape} (p:Parks g fr cs cases sh):g=parked (G fr cs) cases sh:=by
 obtain ⟨h1,h2,h3,h4,h5⟩:=p
 cases g;simp only at h1 h2 h3 h4 h5;subst h1;subst h2;subst h3;subst h4;subst h5;rfl
section
variable (P:Program) (cv:Value) (L:WgLink) (Em:Frame→List Frame→Hp→MX→Prop)
abbrev TN:=Node P (tHand P cv) false (tEnd P L.done)
abbrev MN:=Node P (mHand P cv L.done L.tWg) true Em
inductive Slot:Type 1
 | act (n:TN P cv L)
 | out (k m:Nat)
variable {P cv L}
def SBel:Slot P cv L→Slot P cv L→Prop
 | .act n,.act n'=>Relation.TransGen Below n n'
 | .out _ _,.act _=>True
 | .act _,.out _ _=>False
 | .out k m,.out k' m'=>k<k'∨(k=k'∧m<m')
theorem cjn:WellFounded (SBel (P:=P) (cv:=cv) (L:=L)):=by
 have ho:∀ k m,Acc (SBel (P:=P) (cv:=cv) (L:=L)) (.out k m):=by
  intro k
  induction k using Nat.strongRecOn with
  | _ k ihk =>
   intro m
   induction m using Nat.strongRecOn with
   | _ m ihm =>
    refine ⟨_,fun s hs=>?_⟩
    cases s with
    | act n=>exact hs.elim
    | out k' m' =>
     rcases hs with h | ⟨rfl,h⟩
     ·exact ihk k' h m'
     ·exact ihm m' h
 refine ⟨fun s=>?_⟩
 cases s with
 | out k m=>exact ho k m
 | act n =>
  induction n using (WellFounded.transGen (bmr (P:=P) (B:=tHand P cv) (main:=false) (E:=tEnd P L.done))).induction with
  | _ n ih =>
   refine ⟨_,fun s hs=>?_⟩
   cases s with
   | act n'=>exact ih n' hs
   | out k m=>exact ho k m
def ZS (P:Program) (ty:TypeId) (Wg:Nat):Nat→Goroutine→World→Prop
 | 6=>ZR P ty Wg
 | 5=>ZK P ty Wg
 | 4=>Z1 P ty Wg
 | 3=>Z2 P ty Wg
 | 2=>Z3 P ty Wg
 | 1=>Z4 P ty Wg
 | _=>fun _ _=>False
theorem xz_ {P:Program} {ty:TypeId} {Wg k:Nat} {g:Goroutine} {w:World} (h:ZS P ty Wg k g w):g.status=.running:=by
 unfold ZS at h
 split at h <;> first | exact h.1 | exact h.elim
theorem fi_ {P:Program} {ty:TypeId} {Wg k m:Nat} {g:Goroutine} {w:World} (h:Zg P ty Wg (ZS P ty Wg k) m g w):g.status=.running:=by
 unfold Zg at h
 cases m with
 | zero=>exact xz_ (h w fun x=>x)
 | succ m=>exact h.elim (fun h=>xz_ (h w fun x=>x)) (fun h=>h.1)
theorem cgs {P:Program} {ty:TypeId} {Wg k m:Nat} {g:Goroutine} {w:World} (h:Zg P ty Wg (ZS P ty Wg k) m g w) :
  ZS P ty Wg k g w∨∃ m' g',m=m'+1∧stepG P false g w=.go g' w #[]∧Zg P ty Wg (ZS P ty Wg k) m' g' w:=by
 unfold Zg at h
 cases m with
 | zero=>exact .inl (h w fun x=>x)
 | succ m =>
  rcases h with h | ⟨_,h⟩
  ·exact .inl (h w fun x=>x)
  ·right
   have:=h w fun x=>x
   revert this
   cases e:stepG P false g w <;> simp only [GStep.goes,false_imp_iff]
   rintro ⟨⟨rfl,rfl⟩,q⟩
   exact ⟨m,_,rfl,rfl,q⟩
theorem bdv {P:Program} {ty:TypeId} {Wg m:Nat} {S:Goroutine→World→Prop} {g:Goroutine} {w w':World} (h:Zg P ty Wg S m g w) (r:RL ty Wg w w'):Zg P ty Wg S m g w' :=
 Goes.rely (fun _ _ _ a b x=>b (a x)) h r
structure Mem (w:World) (t:Trace) (hp:Nat→Hp):Prop where
 fits:∀ i,Fits (hp i) w
 sep:∀ i j,i≠j→Sep (hp i) (hp j)
 nr:∀ said,¬ Race said t
 low:Low t w.heap.size
 norel:∀ op∈t,∀ a,op.act≠.mark (.release a)
def put (hp:Nat→Hp) (a:Nat) (h:Hp):Nat→Hp:=fun i=>if i=a then h else hp i
theorem cp_ {hp:Nat→Hp} {a:Nat} {h:Hp}:put hp a h a=h:=by simp [put]
theorem dh_ {hp:Nat→Hp} {a i:Nat} {h:Hp} (hi:i≠a):put hp a h i=hp i:=by simp [put,hi]
structure Own (a:Nat) (h:Hp) (w w':World) (h':Hp) (u:Trace):Prop where
 guar:Guar h w w' h'
 g:∀ op∈u,op.g=a
 mine:∀ op∈u,∀ b,op.act.touch?=some b→Mine h w w'.heap.size b
 plain:∀ op∈u,Plain op
theorem Mem.own {w w':World} {t u:Trace} {hp:Nat→Hp} {a:Nat} {h':Hp} (m:Mem w t hp) (o:Own a (hp a) w w' h' u) (k:Kn t (Knows t a) (hp a)):Mem w' (t++u) (put hp a h') where
 fits:=fun i=>by
  by_cases hi:i=a
  ·subst hi;rw [cp_];exact o.guar.fits
  ·rw [dh_ hi];exact zz_ o.guar (m.sep a i fun e=>hi e.symm) (m.fits a) (m.fits i)
 sep:=fun i j hij=>by
  by_cases hi:i=a
  ·subst hi;rw [cp_,dh_ fun e=>hij e.symm];exact we_ o.guar (m.sep _ _ hij) (m.fits j)
  ·by_cases hj:j=a
   ·subst hj;rw [cp_,dh_ hi];exact (we_ o.guar (m.sep _ _ fun e=>hij e.symm) (m.fits i)).symm
   ·rw [dh_ hi,dh_ hj];exact m.sep _ _ hij
 nr:=fun said=>(xu_ (m.nr said) k m.low o.guar o.g o.mine).1
 low:=(xu_ (m.nr false) k m.low o.guar o.g o.mine).2.2
 norel:=fun op ho b=>by
  rcases Array.mem_append.1 ho with ho | ho
  ·exact m.norel op ho b
  ·intro e;rcases o.plain op ho _ e with h | ⟨f,h⟩ <;> cases h
theorem Mem.mute {w w':World} {t u:Trace} {hp:Nat→Hp} (m:Mem w t hp) (hf:∀ i,Fits (hp i) w') (hs:w.heap.size≤w'.heap.size) (hm:∀ op∈u,op.act.touch?=none) (hr:∀ op∈u,∀ a,op.act≠.mark (.release a)):Mem w' (t++u) hp :=
 ⟨hf,m.sep,fun said=>mw_ (m.nr said) hm,(qi_ m.low hm).mono hs,fun op ho b=>(Array.mem_append.1 ho).elim (fun ho=>m.norel op ho b) (fun ho=>hr op ho b)⟩
theorem gv_ {t u:Trace} {j:Nat} (hj:j<t.size):(t++u).counts j↔t.counts j:=by
 unfold Trace.counts
 rw [act?_old hj]
 have:(t++u).heard j↔t.heard j:=by
  unfold Trace.heard Trace.g?
  simp only [getElem?_append_old hj,deaf_old (Nat.le_of_lt hj)]
 rw [this]
theorem g?_lt {t:Trace} {j i:Nat} (h:t.g? j=some i):j<t.size:=by
 unfold Trace.g? at h
 obtain ⟨op,ho,_⟩:=Option.map_eq_some_iff.1 h
 exact lt_size_of_getElem? ho
theorem g?_app {t u:Trace} {j:Nat} (h:j<t.size):(t++u).g? j=t.g? j:=by unfold Trace.g?;rw [getElem?_append_old h]
theorem g?_new {t u:Trace} {i j:Nat} (hu:∀ op∈u,op.g≠i) (h:(t++u).g? j=some i):j<t.size∧t.g? j=some i:=by
 unfold Trace.g? at h
 obtain ⟨op,ho,hg⟩:=Option.map_eq_some_iff.1 h
 rcases getElem?_append_cases ho with ⟨h1,h2⟩ | ⟨_,h2⟩
 ·exact ⟨h1,by simp [Trace.g?,h2,hg]⟩
 ·exact absurd hg (hu op h2)
def AllK (t:Trace) (i:Nat) (K:Nat→Prop):Prop:=∀ j,t.g? j=some i→t.counts j→K j
theorem AllK.app {t u:Trace} {i:Nat} {K K':Nat→Prop} (h:AllK t i K) (hK:∀ j,K j→K' j) (hu:∀ op∈u,op.g≠i):AllK (t++u) i K':=fun j hj hc=>by
 obtain ⟨h1,h2⟩:=g?_new hu hj
 exact hK _ (h j h2 ((gv_ h1).1 hc))
structure Rel (t:Trace) (wg i p:Nat):Prop where
 act:t.act? p=some (.mark (.releaseMerge ⟨wg,0,none⟩))
 g:t.g? p=some i
 heard:t.heard p
theorem Rel.app {t:Trace} {wg i p:Nat} (r:Rel t wg i p) (u:Trace):Rel (t++u) wg i p:=by
 have hp:=g?_lt r.g
 refine ⟨by rw [act?_old hp];exact r.act,by rw [g?_app hp];exact r.g,?_⟩
 obtain ⟨g,h1,h2⟩:=r.heard
 exact ⟨g,by rw [g?_app hp];exact h1,by rw [deaf_old (Nat.le_of_lt hp)];exact h2⟩
def pu_ (t:Trace) (wg i:Nat) (h:Hp):Slot P cv L→Prop
 | .act n=>Kn t (Knows t i) h∧n.h=h∧Deaf t i=0
 | .out k m=>(k=6∧Kn t (Knows t i) h∧Deaf t i=0) ∨
   (k≤5∧(∃ p,Rel t wg i p∧Kn t (fun j=>Before t j p) h∧AllK t i fun j=>Before t j p)∧(k=5→Deaf t i=0)∧(1≤k→k≤4→Deaf t i=1))
theorem pu_.app {t u:Trace} {wg i:Nat} {h:Hp} {s:Slot P cv L} (k:pu_ t wg i h s) (hu:∀ op∈u,op.g≠i) (hk:∀ {K K':Nat→Prop},Kn t K h→(∀ j,K j→K' j)→Kn (t++u) K' h):pu_ (t++u) wg i h s:=by
 cases s with
 | act n=>exact ⟨hk k.1 fun j h=>h.app u,k.2.1,by rw [dc_ hu];exact k.2.2⟩
 | out c m =>
  rcases k with ⟨h1,h2,h3⟩ | ⟨h1,⟨p,h2,h3,h4⟩,h5,h6⟩
  ·exact .inl ⟨h1,hk h2 fun j h=>h.app u,by rw [dc_ hu];exact h3⟩
  ·exact .inr ⟨h1,⟨p,h2.app u,hk h3 fun j h=>h.app u,h4.app (fun j h=>h.app u) hu⟩,by rw [dc_ hu];exact h5,by rw [dc_ hu];exact h6⟩
structure Old (t:Trace) (i:Nat) (h:Hp) (s:Slot P cv L):Prop where
 out:∃ m,s=.out 0 m
 empty:h=Hp.empty
 all:AllK t i (Knows t 0)
theorem Old.app {t u:Trace} {i:Nat} {h:Hp} {s:Slot P cv L} (o:Old t i h s) (hu:∀ op∈u,op.g≠i):Old (t++u) i h s:=⟨o.out,o.empty,o.all.app (fun j h=>h.app u) hu⟩
end
end Go.PB
namespace Go.PB
open Go.Conc Go.Conc.Lib
open Go.ConcR (KK stA smA rd wr mk DC0)
def Seat.ch {σ θ:Type} (c:Seat σ θ):Nat→Nat
 | 0=>c.says
 | 1=>c.turn
 | _=>c.fin
def NewG (W0:World):MX→Prop
 | .idle=>True
 | .game X=>W0.heap.size≤X.wg∧∀ (j:Nat) (c:Seat X.g.σ X.g.θ) (a:Nat),X.seats[j]?=some c→W0.heap.size≤c.ch a
structure Side (w w':World):Prop where
 os:w'.os=w.os
 tape:w'.tape=w.tape
 output:w'.output=w.output
 frz:∀ a,w'.frozen? a=w.frozen? a
theorem Side.refl {w:World}:Side w w:=⟨rfl,rfl,rfl,fun _=>rfl⟩
theorem fx_ {w:World} {a:Addr} {v:Value}:Side w (w.setCell a v):=⟨rfl,rfl,rfl,fun a'=>fp_ ..⟩
structure Aft (W0 w:World) (hp:Nat→Hp) (x:MX):Prop where
 after:After W0 w
 own:∀ i b o v,(hp i).own b o=some v→W0.heap.size≤b
 obj:∀ i b v,(hp i).obj b=some v→W0.heap.size≤b
 game:NewG W0 x
section
variable {W0 w w':World} {hp:Nat→Hp} {x x':MX} {t u:Trace} {a:Nat} {h':Hp}
theorem Aft.le (A:Aft W0 w hp x):W0.heap.size≤w.heap.size:=A.after.1.size
theorem Aft.own_step (A:Aft W0 w hp x) (o:Own a (hp a) w w' h' u):Aft W0 w' (put hp a h') x where
 after:=⟨⟨o.guar.os.trans A.after.1.os,o.guar.tape.trans A.after.1.tape,o.guar.output.trans A.after.1.output,Nat.le_trans A.after.1.size o.guar.size,fun i hi=>by
  rw [o.guar.block i (Nat.lt_of_lt_of_le hi A.le) (fun o=>cq_ fun v e=>by have:=A.own _ _ _ _ e;omega) (cq_ fun v e=>by have:=A.obj _ _ _ e;omega)]
  exact A.after.1.block i hi⟩,fun a=>(o.guar.frz a).trans (A.after.2 a)⟩
 own:=fun i b k v e=>by
  by_cases hi:i=a
  ·subst hi
   rw [cp_] at e
   refine Nat.le_of_not_lt fun hlt=>?_
   have hlt':=Nat.lt_of_lt_of_le hlt A.le
   cases eh:(hp i).own b k with
   | none=>rw [o.guar.newo _ _ hlt' eh] at e;cases e
   | some v'=>have:=A.own _ _ _ _ eh;omega
  ·rw [dh_ hi] at e;exact A.own _ _ _ _ e
 obj:=fun i b v e=>by
  by_cases hi:i=a
  ·subst hi
   rw [cp_] at e
   refine Nat.le_of_not_lt fun hlt=>?_
   have hlt':=Nat.lt_of_lt_of_le hlt A.le
   cases eh:(hp i).obj b with
   | none=>rw [o.guar.newb _ hlt' eh] at e;cases e
   | some v'=>have:=A.obj _ _ _ eh;omega
  ·rw [dh_ hi] at e;exact A.obj _ _ _ e
 game:=A.game
theorem Aft.at_block (A:Aft W0 w hp x) {c:Nat} (hc:W0.heap.size≤c) (s:Side w w') (hw:∀ b,b≠c→w'.heap[b]?=w.heap[b]?) (hs:w'.heap.size=w.heap.size) (hx:NewG W0 x'):Aft W0 w' hp x' where
 after:=⟨⟨s.os.trans A.after.1.os,s.tape.trans A.after.1.tape,s.output.trans A.after.1.output,by rw [hs];exact A.after.1.size,fun i hi=>by rw [hw i (by omega)];exact A.after.1.block i hi⟩,fun a=>(s.frz a).trans (A.after.2 a)⟩
 own:=A.own
 obj:=A.obj
 game:=hx
theorem Aft.parts' (A:Aft W0 w hp x) {hp':Nat→Hp} (h1:∀ i b o v,(hp' i).own b o=some v→∃ k,(hp k).own b o=some v) (h2:∀ i b v,(hp' i).obj b=some v→∃ k,(hp k).obj b=some v) (hx:NewG W0 x'):Aft W0 w hp' x' where
 after:=A.after
 own:=fun i b o v e=>by obtain ⟨k,e⟩:=h1 _ _ _ _ e;exact A.own _ _ _ _ e
 obj:=fun i b v e=>by obtain ⟨k,e⟩:=h2 _ _ _ e;exact A.obj _ _ _ e
 game:=hx
theorem bch {ch:Nat} {o:Obj} {c n m:Nat} {bf:Array Value} {cl tm:Bool} (e:w.heap[ch]?=some (.chan c bf cl n m tm)) (ho:du_ o=false) (hos:w'.os=w.os) (ht:w'.tape=w.tape) (hou:w'.output=w.output) (hw:w'.heap=w.heap.setIfInBounds ch o):Side w w' where
 os:=hos
 tape:=ht
 output:=hou
 frz:=fun a=>by
  unfold World.frozen?
  rw [hw]
  by_cases h:ch=a.block
  ·subst h
   rw [Array.getElem?_setIfInBounds_self_of_lt (Array.getElem?_eq_some_iff.1 e).1,e]
   cases o <;> simp [du_] at ho ⊢
  ·rw [Array.getElem?_setIfInBounds_ne h]
end
end Go.PB
namespace Go.PB
open Go.Conc Go.Conc.Lib
open Go.ConcR (KK stA smA rd wr mk DC0)
variable {W0:World} {P:Program} {cv:Value} {L:WgLink} {Em:Frame→List Frame→Hp→MX→Prop}
def SeatSt.isShut {σ θ:Type}:SeatSt σ θ→Bool
 | .shut _=>true
 | _=>false
def SeatSt.isRun {σ θ:Type}:SeatSt σ θ→Bool
 | .run _ _=>true
 | _=>false
inductive PhOk {g:Game} (left:Nat):SeatSt g.σ g.θ→Ph g.σ g.θ→Prop
 | run {s q n} (h:left≤n):PhOk left (.run s q) (.busy s q n)
 | said {q n} (h:left≤n) (hp:(g.plan q).isSome=true):PhOk left (.said q) (.said q n)
 | over {q} (hp:g.plan q=none):PhOk left (.said q) (.over q)
 | shutS {q n} (hp:(g.plan q).isSome=true):PhOk left (.shut q) (.said q n)
 | shutO {q}:PhOk left (.shut q) (.over q)
 | shutC {q}:PhOk left (.shut q) (.cut q)
def SlotG (w:World) (wg d:Nat) (g:Goroutine):Slot P cv L→Prop
 | .act n=>Runs g n.fr n.cs∨∃ cases sh,Parks g n.fr n.cs cases sh∧∃ fr cs h x o bl O at_ rr a k,n=⟨fr,cs,h,x,.comm o cases bl sh O at_ rr a k⟩
 | .out 0 m=>QuitsD P m d g
 | .out (k+1) m=>Zg P L.tWg wg (ZS P L.tWg wg (k+1)) m g w
def jb_ (X:GX) (c:Seat X.g.σ X.g.θ) (h:Hp):Slot P cv L→Prop
 | .act n=>∃ ph,n.x=⟨X.g,c.says,c.turn,c.fin,X.wg,ph⟩∧PhOk X.left c.st ph
 | .out k m=>k≤6∧∃ q,((c.st=.said q∧X.g.plan q=none)∨c.st=.shut q)∧Star [X.g.Fin q] h
def Slot.stage:Slot P cv L→Nat
 | .act _=>7
 | .out k _=>k
inductive WgPh (L:WgLink) (X:GX) (st:List Nat) (w:World):Prop
 | quiet (v wt:Nat) (at_:WgAt L.tWg X.wg w (v*KK+wt) 0) (hv:v+(X.seats.length+X.nf)=(st.filter fun k=>decide (4≤k)).length+X.ad) (late:∀ k∈st,k=0∨4≤k)
   (hw:wt=match X.wt with | .parked=>1 | _=>0) (park:X.wt=.parked→0<v)
   (b:match X.wt with | .wait b=>v≤b | .seen v0=>v≤v0 | .woken=>v=0 | .zero=>v=0 | _=>True)
 | late (p:X.wt=.parked) (i k:Nat) (hi:st[i]?=some k) (hk:k=3∨k=2) (at_:WgAt L.tWg X.wg w 1 0) (oth:∀ j k,st[j]?=some k→j≠i→k=0)
 | late1 (p:X.wt=.parked) (i:Nat) (hi:st[i]?=some 1) (at_:WgAt L.tWg X.wg w 0 0) (oth:∀ j k,st[j]?=some k→j≠i→k=0)
 | free (p:X.wt=.parked) (at_:WgAt L.tWg X.wg w 0 1) (oth:∀ k∈st,k=0)
abbrev St (X:GX):=Seat X.g.σ X.g.θ
structure GameAt (X:GX) (gs:Array Goroutine) (w:World) (t:Trace) (sl:List (Slot P cv L)) (hp:Nat→Hp) (nb:Nat):Prop where
 len:sl.length=nb+(X.seats.length+X.nf)
 old:∀ (i:Nat) (s:Slot P cv L),i<nb→sl[i]?=some s→Old t (i+1) (hp (i+1)) s
 seat:∀ (j:Nat) (c:St X),X.seats[j]?=some c→∃ s,sl[nb+j]?=some s∧jb_ X c (hp (nb+j+1)) s
 know:∀ (j:Nat) (s:Slot P cv L),sl[nb+j]?=some s→pu_ t X.wg (nb+j+1) (hp (nb+j+1)) s
 chan:∀ (j:Nat) (c:St X),X.seats[j]?=some c→∀ a,a<3→∃ n,w.heap[c.ch a]?=some (Obj.chan 0 #[] (decide (a=2)&&c.st.isShut) n n false)
 dist:∀ (j j':Nat) (c c':St X) (a a':Nat),X.seats[j]?=some c→X.seats[j']?=some c'→a<3→a'<3→c.ch a=c'.ch a'→j=j'∧a=a'
 noch:∀ (i j:Nat) (c:St X) (a:Nat),X.seats[j]?=some c→a<3→(hp i).obj (c.ch a)=none
 nowg:∀ i o,(hp i).own X.wg o=none∧(hp i).ro X.wg o=none
 wg:WgPh L X (sl.map Slot.stage) w
 wgt:∀ (i:Nat) (a:Touch) (o:Nat),o<2→touchAt t i=some a→a.loc=.cell ⟨X.wg,o,none⟩ →
  (a.kind≠.plain∧(a.kind=.said→t.g? i=some 0))∨(Knows t 0 i∧∀ (j:Nat),j<X.seats.length+X.nf→Knows t (nb+j+1) i)
 deaf:Deaf t 0=if X.deaf then 1 else 0
 tok0:X.tok=none→∃ (j:Nat) (c:St X),X.seats[j]?=some c∧c.st.isRun=true∧∀ (j':Nat) (c':St X),X.seats[j']?=some c'→j'≠j→c'.st.isRun=false
 tok1:X.tok.isSome=true→∀ (j:Nat) (c:St X),X.seats[j]?=some c→c.st.isRun=false
 adp:X.wt=.play→X.ad=X.seats.length+X.nf∨(X.ad=X.seats.length+X.nf+1∧X.tok.isSome=true)
 ads:X.wt≠.play→X.ad=X.seats.length+X.nf∧∀ (j:Nat) (c:St X),X.seats[j]?=some c→c.st.isShut=true
 adl:X.ad≤1000
 live:∀ (j:Nat) (c:St X) (g:Goroutine),X.seats[j]?=some c→gs[nb+j+1]?=some g→c.st.isShut=true→g.status≠.blocked
 park:∀ (g0:Goroutine) (cases:Array CommCase) (sh:CommShape),gs[0]?=some g0→g0.status=.blocked→g0.offers=some (cases,sh)→∃ (j:Nat) (c:St X),X.seats[j]?=some c∧X.wt=.play ∧
   ((∃ z,cases=#[rcase c.says z])∨(∃ v z,cases=#[scase c.turn v z]))∧∀ (g:Goroutine),gs[nb+j+1]?=some g→g.status≠.blocked
 sleep:∀ (g0:Goroutine),gs[0]?=some g0→g0.status=.blocked→g0.offers=none→X.wt=.parked∧¬ WgAt L.tWg X.wg w 0 1
 cht:∀ (j:Nat) (c:St X) (a i:Nat) (b:Touch),X.seats[j]?=some c→a<3→touchAt t i=some b→b.loc=.obj (c.ch a)→Knows t 0 i
def ji_ {g:Game} (wg m:Nat) (q:g.θ) (h:Hp):Slot P cv L→Prop
 | .act n=>∃ n',n.x=⟨g,0,0,0,wg,.free q n'⟩∧m≤n'
 | .out _ _=>g.plan q=none∧Star [g.Fin q] h
structure Pool (W0:World) (g:Game) (wg nf:Nat) (d:FreeD g) (w:World) (t:Trace) (sl:List (Slot P cv L)) (hp:Nat→Hp) (nb:Nat) (pl:Hp) (s:g.σ) (qs:List g.θ):Prop where
 len:sl.length=nb+nf
 u:g.U s pl
 fits:Fits pl w
 obj:∀ b,pl.obj b=none
 sep:∀ i,Sep (hp i) pl
 nowg:∀ o,pl.own wg o=none∧pl.ro wg o=none
 new:∀ b o v,pl.own b o=some v→W0.heap.size≤b
 kno:∀ b o v,pl.own b o=some v→∀ i a,touchAt t i=some a→a.loc=.cell ⟨b,o,none⟩→(a.kind=.atomic∧t.counts i∧∃ j,j<nf∧t.g? i=some (nb+j+1))∨(Knows t 0 i∧∀ j,j<nf→Knows t (nb+j+1) i)
 knr:∀ b o v,pl.ro b o=some v→∀ i a,touchAt t i=some a→a.loc=.cell ⟨b,o,none⟩→a.write=true→Knows t 0 i∧∀ j,j<nf→Knows t (nb+j+1) i
 inv:d.I s qs
 pot:d.φ s qs≤d.N
 qlen:qs.length=d.q0.length
 slot:∀ (j:Nat) (sx:Slot P cv L),sl[nb+j]?=some sx→∃ q,qs[j]?=some q∧ji_ wg (d.φ s qs) q (hp (nb+j+1)) sx
 rest:∀ j,nf≤j→qs[j]?=d.q0[j]?
def kx_ (W0:World) (x:MX) (w:World) (t:Trace) (sl:List (Slot P cv L)) (hp:Nat→Hp):Prop:=match x with
 | .idle=>True
 | .game X=>(X.free=none→X.nf=0)∧∀ d,X.free=some d→X.seats=[]∧X.tok.isSome=true∧∃ nb pl s qs,Pool W0 X.g X.wg X.nf d w t sl hp nb pl s qs
theorem gr_ {t:Trace} {i:Nat} {a:Touch} (h:touchAt t i=some a):i<t.size:=by
 obtain ⟨op,ho,_⟩:=touch_of h
 exact lt_size_of_getElem? ho
theorem Pool.step {g:Game} {wg nf:Nat} {d:FreeD g} {w w':World} {t u:Trace} {sl sl':List (Slot P cv L)} {hp hp':Nat→Hp} {nb:Nat} {pl:Hp} {s:g.σ} {qs:List g.θ} (p:Pool W0 g wg nf d w t sl hp nb pl s qs)
  (hf:Fits pl w') (hs:∀ i,Sep (hp' i) pl) (hu:∀ op∈u,∀ a,op.act.touch?=some a→∀ b o,a.loc=.cell ⟨b,o,none⟩→pl.own b o=none∧(a.write=true→pl.ro b o=none)) (hl:sl'.length=sl.length)
  (hsl:∀ (m:Nat) (q:g.θ) (i:Nat) (sx':Slot P cv L),sl'[i]?=some sx'→∃ sx,sl[i]?=some sx∧(ji_ wg m q (hp (i+1)) sx→ji_ wg m q (hp' (i+1)) sx')):Pool W0 g wg nf d w' (t++u) sl' hp' nb pl s qs where
 len:=by rw [hl];exact p.len
 u:=p.u
 fits:=hf
 obj:=p.obj
 sep:=hs
 nowg:=p.nowg
 new:=p.new
 kno:=fun b o v e i a ha hl=>by
  rcases bp_ ha with ha | ⟨op,ho,_,h2⟩
  ·rcases p.kno b o v e i a ha hl with ⟨h1,h2,j,h3,h4⟩ | ⟨h1,h2⟩
   ·exact .inl ⟨h1,(gv_ (gr_ ha)).2 h2,j,h3,by rw [g?_app (gr_ ha)];exact h4⟩
   ·exact .inr ⟨h1.app u,fun j hj=>(h2 j hj).app u⟩
  ·have:=(hu op ho a h2 b o hl).1
   rw [e] at this;cases this
 knr:=fun b o v e i a ha hl hw=>by
  rcases bp_ ha with ha | ⟨op,ho,_,h2⟩
  ·obtain ⟨h1,h2⟩:=p.knr b o v e i a ha hl hw
   exact ⟨h1.app u,fun j hj=>(h2 j hj).app u⟩
  ·have:=(hu op ho a h2 b o hl).2 hw
   rw [e] at this;cases this
 inv:=p.inv
 pot:=p.pot
 qlen:=p.qlen
 slot:=fun j sx' hj=>by
  obtain ⟨q0,_⟩:∃ q,qs[j]?=some q:=by
   obtain ⟨sx,h1,_⟩:∃ sx,sl[nb+j]?=some sx∧True:=⟨_,List.getElem?_eq_getElem (by rw [← hl];exact (List.getElem?_eq_some_iff.1 hj).1),trivial⟩
   obtain ⟨q,h2,_⟩:=p.slot j sx h1
   exact ⟨q,h2⟩
  obtain ⟨sx,h1,h2⟩:=hsl (d.φ s qs) q0 (nb+j) sx' hj
  obtain ⟨q,h3,h4⟩:=p.slot j sx h1
  obtain ⟨sx2,h5,h6⟩:=hsl (d.φ s qs) q (nb+j) sx' hj
  rw [h1] at h5;cases h5
  exact ⟨q,h3,h6 h4⟩
 rest:=p.rest
theorem kx_.step {x:MX} {w w':World} {t u:Trace} {sl sl':List (Slot P cv L)} {hp hp':Nat→Hp} (p:kx_ W0 x w t sl hp)
  (H:∀ pl:Hp,(∀ X,x=.game X→∀ o,pl.own X.wg o=none∧pl.ro X.wg o=none)→(∀ i,Sep (hp i) pl)→Fits pl w→Fits pl w'∧(∀ i,Sep (hp' i) pl) ∧
   ∀ op∈u,∀ a,op.act.touch?=some a→∀ b o,a.loc=.cell ⟨b,o,none⟩→pl.own b o=none∧(a.write=true→pl.ro b o=none)) (hl:sl'.length=sl.length)
  (hsl:∀ (g:Game) (wg m:Nat) (q:g.θ) (i:Nat) (sx':Slot P cv L),sl'[i]?=some sx'→∃ sx,sl[i]?=some sx∧(ji_ wg m q (hp (i+1)) sx→ji_ wg m q (hp' (i+1)) sx')):kx_ W0 x w' (t++u) sl' hp':=by
 cases x with
 | idle=>trivial
 | game X =>
  refine ⟨p.1,fun d hd=>?_⟩
  obtain ⟨h1,h2,nb,pl,s,qs,h3⟩:=p.2 d hd
  obtain ⟨e1,e2,e3⟩:=H pl (fun X' e o=>by cases e;exact h3.nowg o) h3.sep h3.fits
  exact ⟨h1,h2,nb,pl,s,qs,h3.step e1 e2 e3 hl fun m q=>hsl X.g X.wg m q⟩
theorem kx_.same {x:MX} {w:World} {t:Trace} {sl:List (Slot P cv L)} {hp hp':Nat→Hp} (p:kx_ W0 x w t sl hp) (hs:∀ i,Frz (hp i) (hp' i)) (ho:∀ i,i≠0→hp' i=hp i):kx_ W0 x w t sl hp':=by
 have:=p.step (w':=w) (u:=#[]) (sl':=sl) (hp':=hp') (fun pl _ h2 h3=>⟨h3,fun i=>(hs i).sep (h2 i),fun op ho=>by simp at ho⟩) rfl fun g wg m q i sx hi=>⟨sx,hi,fun h=>by rw [ho _ (by omega)];exact h⟩
 rwa [Array.append_empty] at this
structure IdleAt (t:Trace) (sl:List (Slot P cv L)) (hp:Nat→Hp) (gs:Array Goroutine):Prop where
 old:∀ (i:Nat) (s:Slot P cv L),sl[i]?=some s→Old t (i+1) (hp (i+1)) s
 deaf:Deaf t 0=0
 runs:∀ (g0:Goroutine),gs[0]?=some g0→g0.status≠.blocked
def MainG (g:Goroutine) (n:MN P cv L Em):Prop :=
 Runs g n.fr n.cs∨(∃ cases sh,Parks g n.fr n.cs cases sh∧∃ fr cs h x o bl O at_ rr a k,n=⟨fr,cs,h,x,.comm o cases bl sh O at_ rr a k⟩) ∨
  (Sleeps g n.fr n.cs∧∃ fr cs h x o O at_ ne a k,n=⟨fr,cs,h,x,.act o O at_ ne a k⟩)
structure Cfg (W0:World) (gs:Array Goroutine) (w:World) (t:Trace) (M:MN P cv L Em) (sl:List (Slot P cv L)) (hp:Nat→Hp):Prop where
 size:gs.size=sl.length+1
 main:∃ g,gs[0]?=some g∧MainG g M
 thr:∀ i s,sl[i]?=some s→∃ g,gs[i+1]?=some g∧SlotG w (match M.x with | .game X=>X.wg | .idle=>0) (Deaf t (i+1)) g s
 mem:Mem w t hp
 aft:Aft W0 w hp M.x
 hp0:hp 0=M.h
 hpn:∀ i,sl.length<i→hp i=Hp.empty
 tg:∀ (i:Nat) (op:MemOp),t[i]?=some op→op.g≤sl.length
 kn0:Kn t (Knows t 0) (hp 0)
 game:match M.x with
  | .idle=>IdleAt t sl hp gs
  | .game X=>∃ nb,GameAt X gs w t sl hp nb
 pool:kx_ W0 M.x w t sl hp
theorem Cfg.turns {gs:Array Goroutine} {w:World} {t:Trace} {M:MN P cv L Em} {sl:List (Slot P cv L)} {hp:Nat→Hp} {X:GX} {j:Nat} {cx:St X} (c:Cfg W0 gs w t M sl hp) (hX:M.x=.game X) (hj:X.seats[j]?=some cx):X.free=none∧X.nf=0:=by
 have hp:=c.pool
 rw [hX] at hp
 cases hf:X.free with
 | none=>exact ⟨rfl,hp.1 hf⟩
 | some d=>rw [(hp.2 d hf).1] at hj;simp at hj
end Go.PB
namespace Go.PB
open Go.Conc Go.Conc.Lib
open Go.ConcR (KK stA smA rd wr mk DC0)
variable {W0:World} {P:Program} {cv:Value} {L:WgLink} {Em:Frame→List Frame→Hp→MX→Prop}
theorem hk_ (g g':Goroutine) (w':World) (o:Goroutine):woken P g g' w' o=o∨(woken P g g' w' o={ o with status:=.running }∧(o.status=.blocked∨o.status=.waiting)):=by
 unfold woken
 split
 ·unfold Goroutine.again
  split
  ·rename_i h1 h2
   simp only
   split
   ·exact .inr ⟨rfl,.inl h1⟩
   ·exact .inl rfl
  ·rename_i h1 h2;exact .inr ⟨rfl,.inl h1⟩
  ·rename_i h1;exact .inr ⟨rfl,.inr h1⟩
  ·exact .inl rfl
 ·exact .inl rfl
theorem bbp {g g':Goroutine} {w':World} {o:Goroutine} (h:(woken P g g' w' o).status=.blocked):woken P g g' w' o=o:=by
 rcases hk_ (P:=P) g g' w' o with e | ⟨e,_⟩
 ·exact e
 ·rw [e] at h;cases h
theorem qv_ {g g':Goroutine} {w':World} {o:Goroutine} (h:o.status=.running):woken P g g' w' o=o:=by
 rcases hk_ (P:=P) g g' w' o with e | ⟨e,h' | h'⟩
 ·exact e
 ·rw [h] at h';cases h'
 ·rw [h] at h';cases h'
theorem vx_ {g g':Goroutine} {w':World} {o:Goroutine} (h:o.status=.running∨o.status=.finished):woken P g g' w' o=o:=by
 rcases hk_ (P:=P) g g' w' o with e | ⟨e,h' | h'⟩
 ·exact e
 ·rcases h with h | h <;> (rw [h] at h';cases h')
 ·rcases h with h | h <;> (rw [h] at h';cases h')
theorem SlotG.woken {w w':World} {wg d:Nat} {g g' o:Goroutine} {s:Slot P cv L} (h:SlotG w wg d o s) (r:RL L.tWg wg w w'):SlotG w' wg d (woken P g g' w' o) s:=by
 cases s with
 | act n =>
  rcases h with h | ⟨cases,sh,h,hx⟩
  ·exact .inl (by rw [qv_ h.status];exact h)
  ·rcases hk_ (P:=P) g g' w' o with e | ⟨e,_⟩
   ·exact .inr ⟨cases,sh,by rw [e];exact h,hx⟩
   ·exact .inl (by rw [e];exact ⟨h.frame,h.callers,rfl,h.dying⟩)
 | out k m =>
  cases k with
  | zero=>show QuitsD P m d _;rw [vx_ (QuitsD.status h)];exact h
  | succ k=>show Zg P L.tWg wg _ m _ w';rw [qv_ (fi_ h)];exact bdv h r
theorem MainG.woken {w':World} {g g' o:Goroutine} {n:MN P cv L Em} (h:MainG o n):MainG (woken P g g' w' o) n:=by
 rcases hk_ (P:=P) g g' w' o with e | ⟨e,hb⟩
 ·rw [e];exact h
 ·rw [e]
  rcases h with h | ⟨_,_,h,_⟩ | ⟨h,_⟩
  ·exact .inl ⟨h.frame,h.callers,rfl,h.dying⟩
  ·exact .inl ⟨h.frame,h.callers,rfl,h.dying⟩
  ·exact .inl ⟨h.frame,h.callers,rfl,h.dying⟩
structure Gs (P:Program) (a:Nat) (gs gs':Array Goroutine) (g':Goroutine):Prop where
 size:gs'.size=gs.size
 self:gs'[a]?=some g'
 other:∀ (i:Nat) (g:Goroutine),i≠a→gs[i]?=some g→∃ x x' w,gs'[i]?=some (woken P x x' w g)
 back:∀ (i:Nat) (g:Goroutine),i≠a→gs'[i]?=some g→g.status=.blocked→gs[i]?=some g
theorem gs_go {a:Nat} {gs:Array Goroutine} {g g':Goroutine} {w':World} (h:gs[a]?=some g):Gs P a gs ((gs.map (woken P g g' w')).setIfInBounds a g') g':=by
 have hlt:=(Array.getElem?_eq_some_iff.1 h).1
 refine ⟨by simp,by simp [hlt],fun i o hi ho=>⟨g,g',w',?_⟩,fun i o hi ho hb=>?_⟩
 ·rw [Array.getElem?_setIfInBounds_ne fun e=>hi e.symm,Array.getElem?_map,ho];rfl
 ·rw [Array.getElem?_setIfInBounds_ne fun e=>hi e.symm,Array.getElem?_map] at ho
  obtain ⟨o',h1,h2⟩:=Option.map_eq_some_iff.1 ho
  subst h2
  rw [bbp hb];exact h1
theorem ccx {w w':World} {h h':Hp} {b:Nat} {ob:Obj} (g:Guar h w w' h') (f:Fits h w) (hn:h.obj b=none) (hc:du_ ob=false) (e:w.heap[b]?=some ob):w'.heap[b]?=some ob:=by
 rw [g.block b (Array.getElem?_eq_some_iff.1 e).1 (fun o=>cq_ fun v hv=>?_) hn]
 ·exact e
 ·have h1:=f.own _ _ _ hv
  unfold World.cell? at h1
  simp only [e] at h1
  cases ob <;> simp [du_] at h1 hc
theorem bpr {w w':World} {h h':Hp} {ty:TypeId} {wg:Nat} {st sm:Int} (g:Guar h w w' h') (f:Fits h w) (hn:∀ o,h.own wg o=none∧h.ro wg o=none) (e:WgAt ty wg w st sm):WgAt ty wg w' st sm:=by
 refine e.of_heap ?_
 obtain ⟨fz,e,_⟩:=e
 rw [g.block wg (Array.getElem?_eq_some_iff.1 e).1 (fun o=>(hn o).1) (cq_ fun v hv=>?_)]
 ·have h1:=f.obj _ _ hv
  rw [e] at h1;cases h1
  have:=f.objn _ _ hv
  simp [du_] at this
theorem WgPh.at {X:GX} {st:List Nat} {w w':World} (p:WgPh L X st w) (h:∀ a b,WgAt L.tWg X.wg w a b→WgAt L.tWg X.wg w' a b):WgPh L X st w':=by
 cases p with
 | quiet v wt a hv late hw park b=>exact .quiet v wt (h _ _ a) hv late hw park b
 | late p i k hi hk a oth=>exact .late p i k hi hk (h _ _ a) oth
 | late1 p i hi a oth=>exact .late1 p i hi (h _ _ a) oth
 | free p a oth=>exact .free p (h _ _ a) oth
theorem WgPh.ex {X:GX} {st:List Nat} {w:World} (p:WgPh L X st w):∃ a b,WgAt L.tWg X.wg w a b:=by
 cases p with
 | quiet v wt a=>exact ⟨_,_,a⟩
 | late p i k hi hk a=>exact ⟨_,_,a⟩
 | late1 p i hi a=>exact ⟨_,_,a⟩
 | free p a=>exact ⟨_,_,a⟩
theorem tq_ {ty:TypeId} {wg:Nat} {w:World} {a b:Int} (h:WgAt ty wg w a b):wg<w.heap.size:=by obtain ⟨_,h,_⟩:=h;exact (Array.getElem?_eq_some_iff.1 h).1
structure Sl (a:Nat) (sl sl':List (Slot P cv L)) (h':Hp):Prop where
 len:sl'.length=sl.length
 other:∀ j,j+1≠a→sl'[j]?=sl[j]?
 self:∀ j,j+1=a→∃ n n':TN P cv L,sl[j]?=some (.act n)∧sl'[j]?=some (.act n')∧n'.x=n.x∧n'.h=h'
theorem Sl.stages {a:Nat} {sl sl':List (Slot P cv L)} {h':Hp} (s:Sl a sl sl' h'):sl'.map Slot.stage=sl.map Slot.stage:=by
 apply List.ext_getElem?
 intro j
 simp only [List.getElem?_map]
 by_cases hj:j+1=a
 ·obtain ⟨n,n',h1,h2,_⟩:=s.self j hj
  rw [h1,h2];rfl
 ·rw [s.other j hj]
theorem GameAt.own {X:GX} {gs gs':Array Goroutine} {w w':World} {t u:Trace} {sl sl':List (Slot P cv L)} {hp:Nat→Hp} {nb a:Nat} {h':Hp} {g':Goroutine}
  (G:GameAt X gs w t sl hp nb) (m:Mem w t hp) (o:Own a (hp a) w w' h' u) (k:Kn t (Knows t a) (hp a)) (q:Gs P a gs gs' g') (s:Sl a sl sl' h') (hr:g'.status≠.blocked):GameAt X gs' w' (t++u) sl' (put hp a h') nb:=by
 have hwg:=G.wg.ex
 obtain ⟨wa,wb,hwa⟩:=hwg
 have hnew:∀ i a' o',touchAt (t++u) i=some a'→a'.loc=.cell ⟨X.wg,o',none⟩→touchAt t i=some a':=fun i a' o' ha hl=>by
  rcases bp_ ha with ha | ⟨op,ho,_,hb⟩
  ·exact ha
  ·exfalso
   rcases o.mine op ho a' hb with ⟨bl,o2,h1,_,h3⟩ | ⟨r,h1,_⟩
   ·rw [h1] at hl;cases hl
    have:=G.nowg a o'
    rcases h3 with h3 | h3 | ⟨_,h3⟩
    ·have:=tq_ hwa;omega
    ·rw [this.1] at h3;cases h3
    ·rw [this.2] at h3;cases h3
   ·rw [h1] at hl;cases hl
 have hna:∀ i,i≠a→∀ op∈u,op.g≠i:=fun i hi op ho e=>hi (by rw [← e,o.g op ho])
 refine ⟨by rw [s.len];exact G.len,fun i c hi hc=>?_,fun j c hc=>?_,fun j c hc=>?_,fun j c hc b hb=>?_,G.dist,fun i j c b hc hb=>?_,fun i b=>?_,?_,fun i b o' ho2 hb hl=>?_,?_,G.tok0,G.tok1,G.adp,G.ads,G.adl,fun j c g hc hg hs hb=>?_,fun g0 cases sh hg hb ho=>?_,fun g0 hg hb ho=>?_,fun j c b i x hc hb hx hl=>?_⟩
 ·by_cases ha:i+1=a
  ·obtain ⟨n,n',h1,_⟩:=s.self i ha
   obtain ⟨m',e⟩:=(G.old i _ hi h1).out
   cases e
  ·rw [s.other i ha] at hc
   rw [dh_ ha]
   exact (G.old i c hi hc).app (hna _ ha)
 ·obtain ⟨sx,h1,h2⟩:=G.seat j c hc
  by_cases ha:nb+j+1=a
  ·obtain ⟨n,n',h3,h4,h5,h6⟩:=s.self _ ha
   rw [h1] at h3;cases h3
   exact ⟨_,h4,by
    obtain ⟨ph,e1,e2⟩:=h2
    exact ⟨ph,h5.trans e1,e2⟩⟩
  ·exact ⟨sx,by rw [s.other _ ha];exact h1,by rw [dh_ ha];exact h2⟩
 ·by_cases ha:nb+j+1=a
  ·obtain ⟨n,n',h3,h4,h5,h6⟩:=s.self _ ha
   rw [h4] at hc;cases hc
   have hk:=G.know j _ h3
   subst ha
   rw [cp_]
   exact ⟨(xu_ (m.nr false) k m.low o.guar o.g o.mine).2.1,h6,by rw [fd_ o.plain];exact hk.2.2⟩
  ·rw [s.other _ ha] at hc
   rw [dh_ ha]
   exact (G.know j c hc).app (hna _ ha) fun kk hK=>bkt kk (fun j hj=>hK j hj) (m.sep a _ fun e=>ha e.symm) (m.fits _) o.mine
 ·obtain ⟨n,e⟩:=G.chan j c hc b hb
  exact ⟨n,ccx o.guar (m.fits a) (G.noch a j c b hc hb) rfl e⟩
 ·by_cases ha:i=a
  ·subst ha
   obtain ⟨n,e⟩:=G.chan j c hc b hb
   rw [cp_]
   exact o.guar.newb _ (Array.getElem?_eq_some_iff.1 e).1 (G.noch i j c b hc hb)
  ·rw [dh_ ha];exact G.noch i j c b hc hb
 ·by_cases ha:i=a
  ·subst ha
   rw [cp_]
   exact ⟨o.guar.newo _ _ (tq_ hwa) (G.nowg i b).1,o.guar.newr _ _ (tq_ hwa) (G.nowg i b).1 (G.nowg i b).2⟩
  ·rw [dh_ ha];exact G.nowg i b
 ·rw [s.stages]
  exact G.wg.at fun x y hxy=>bpr o.guar (m.fits a) (G.nowg a) hxy
 ·have hb':=hnew i b o' hb hl
  rcases G.wgt i b o' ho2 hb' hl with this | ⟨k0,k1⟩
  ·refine .inl ⟨this.1,fun hs=>?_⟩
   have h1:=this.2 hs
   rw [g?_app (g?_lt h1)];exact h1
  ·exact .inr ⟨k0.app u,fun j hj=>(k1 j hj).app u⟩
 ·rw [fd_ o.plain];exact G.deaf
 ·by_cases ha:nb+j+1=a
  ·subst ha;rw [q.self] at hg;cases hg;exact hr hb
  ·exact G.live j c g hc (q.back _ _ ha hg hb) hs hb
 ·by_cases ha:0=a
  ·subst ha;rw [q.self] at hg;cases hg;exact absurd hb hr
  ·obtain ⟨j,c,h1,h2,h3,h4⟩:=G.park g0 cases sh (q.back _ _ ha hg hb) hb ho
   refine ⟨j,c,h1,h2,h3,fun g hg2 hb2=>?_⟩
   by_cases ha2:nb+j+1=a
   ·subst ha2;rw [q.self] at hg2;cases hg2;exact hr hb2
   ·exact h4 g (q.back _ _ ha2 hg2 hb2) hb2
 ·by_cases ha:0=a
  ·subst ha;rw [q.self] at hg;cases hg;exact absurd hb hr
  ·have:=G.sleep g0 (q.back _ _ ha hg hb) hb ho
   refine ⟨this.1,fun hx=>this.2 ?_⟩
   have hz:=bpr o.guar (m.fits a) (G.nowg a) hwa
   have:=WgAt.unique hz hx
   rw [this.1,this.2] at hwa;exact hwa
 ·rcases bp_ hx with hx | ⟨op,ho,_,h2⟩
  ·exact (G.cht j c b i x hc hb hx hl).app u
  ·exfalso
   obtain ⟨n,e⟩:=G.chan j c hc b hb
   rcases o.mine op ho x h2 with ⟨bl,o2,h1,_⟩ | ⟨r,h1,_,h3⟩
   ·rw [h1] at hl;cases hl
   ·rw [h1] at hl;cases hl
    rcases h3 with h3 | h3
    ·have:=(Array.getElem?_eq_some_iff.1 e).1;omega
    ·rw [G.noch a j c b hc hb] at h3;cases h3
end Go.PB
namespace Go.PB
open Go.Conc Go.Conc.Lib
open Go.ConcR (KK stA smA rd wr mk DC0)
variable {W0:World} {P:Program} {cv:Value} {L:WgLink} {Em:Frame→List Frame→Hp→MX→Prop}
theorem mm_ {a:Nat} {h h':Hp} {w w':World} {fn:FuncId} {pos:String} {es:Array Event} (g:Guar h w w' h') (he:∀ e∈es,EvOk Still h w w'.heap.size e):Own a h w w' h' (MemOp.ofEvents a fn pos es) where
 guar:=g
 g:=fun op ho=>by obtain ⟨e,_,rfl⟩:=co_ ho;rfl
 mine:=fun op ho b hb=>by obtain ⟨e,h1,rfl⟩:=co_ ho;exact (ss_ (fun _ x=>x) (he e h1)).2 b hb
 plain:=fun op ho m hm=>by obtain ⟨e,h1,rfl⟩:=co_ ho;exact (ss_ (fun _ x=>x) (he e h1)).1 m hm
theorem hg_ {w w' w2:World} {wg d d':Nat} {g g' o:Goroutine} {s:Slot P cv L} (hd:d'=d) (r:RL L.tWg wg w w') (hs:SlotG w wg d o s):SlotG w' wg d' (woken P g g' w2 o) s:=by
 subst hd
 cases s with
 | act n =>
  rcases hs with h | ⟨cases,sh,h,hx⟩
  ·exact .inl (by rw [qv_ h.status];exact h)
  ·rcases hk_ (P:=P) g g' w2 o with e | ⟨e,_⟩
   ·exact .inr ⟨cases,sh,by rw [e];exact h,hx⟩
   ·exact .inl (by rw [e];exact ⟨h.frame,h.callers,rfl,h.dying⟩)
 | out k m =>
  cases k with
  | zero=>show QuitsD P m d' _;rw [vx_ (QuitsD.status hs)];exact hs
  | succ k=>show Zg P L.tWg wg _ m _ w';rw [qv_ (fi_ hs)];exact bdv hs r
theorem bwp {w w' w2:World} {wg d d':Nat} {g g' o:Goroutine} {t:Trace} {i:Nat} {h:Hp} {s:Slot P cv L} (ol:Old t i h s) (hd:d'=d) (hs:SlotG w wg d o s):SlotG w' wg d' (woken P g g' w2 o) s:=by
 obtain ⟨m,rfl⟩:=ol.out
 subst hd
 show QuitsD P m d' _
 rw [vx_ (QuitsD.status hs)];exact hs
theorem Cfg.own {gs gs':Array Goroutine} {w w':World} {t u:Trace} {M M':MN P cv L Em} {sl sl':List (Slot P cv L)} {hp:Nat→Hp} {a:Nat} {h':Hp} {fr':Frame} {cs':List Frame}
  (c:Cfg W0 gs w t M sl hp) (ha:a≤sl.length) (o:Own a (hp a) w w' h' u) (kn:Kn t (Knows t a) (hp a)) (q:Gs P a gs gs' (G fr' cs')) (s:Sl a sl sl' h') (hx:M'.x=M.x) (hh:M'.h=put hp a h' 0)
  (hm:a≠0→M'=M) (hm0:a=0→M'.fr=fr'∧M'.cs=cs') (hs:∀ j n',j+1=a→sl'[j]?=some (.act n')→n'.fr=fr'∧n'.cs=cs'):Cfg W0 gs' w' (t++u) M' sl' (put hp a h') where
 size:=by rw [q.size,s.len];exact c.size
 main:=by
  by_cases h0:a=0
  ·subst h0
   obtain ⟨e1,e2⟩:=hm0 rfl
   exact ⟨_,q.self,.inl (by rw [e1,e2];exact ko_)⟩
  ·rw [hm h0]
   obtain ⟨g,h1,h2⟩:=c.main
   obtain ⟨x,x',w2,h3⟩:=q.other 0 g (fun e=>h0 e.symm) h1
   exact ⟨_,h3,h2.woken⟩
 thr:=fun i sx hi=>by
  by_cases hia:i+1=a
  ·obtain ⟨n,n',h1,h2,h3,h4⟩:=s.self i hia
   rw [h2] at hi;cases hi
   obtain ⟨e1,e2⟩:=hs i n' hia h2
   exact ⟨_,by rw [hia];exact q.self,.inl (by rw [e1,e2];exact ko_)⟩
  ·rw [s.other i hia] at hi
   obtain ⟨g,h1,h2⟩:=c.thr i sx hi
   obtain ⟨x,x',w2,h3⟩:=q.other (i+1) g hia h1
   refine ⟨_,h3,?_⟩
   have hd:Deaf (t++u) (i+1)=Deaf t (i+1):=dc_ fun op ho e=>hia (by rw [← e,o.g op ho])
   have hgame:=c.game
   rw [hx]
   cases hM:M.x with
   | idle=>rw [hM] at hgame h2;exact bwp (hgame.old i sx hi) hd h2
   | game X =>
    rw [hM] at hgame h2
    obtain ⟨nb,hG⟩:=hgame
    obtain ⟨p1,p2,hp'⟩:=hG.wg.ex
    exact hg_ hd (fun _=>⟨_,_,bpr o.guar (c.mem.fits a) (hG.nowg a) hp'⟩) h2
 mem:=c.mem.own o kn
 aft:=by rw [hx];exact c.aft.own_step o
 hp0:=hh.symm
 hpn:=fun i hi=>by
  rw [s.len] at hi
  rw [dh_ (by omega)];exact c.hpn i hi
 tg:=fun i op hi=>by
  rw [s.len]
  rcases getElem?_append_cases hi with ⟨_,h⟩ | ⟨_,h⟩
  ·exact c.tg i op h
  ·rw [o.g op h];exact ha
 kn0:=by
  by_cases h0:a=0
  ·subst h0;rw [cp_];exact (xu_ (c.mem.nr false) kn c.mem.low o.guar o.g o.mine).2.1
  ·rw [dh_ fun e=>h0 e.symm]
   exact bkt c.kn0 (fun j hj=>hj.app u) (c.mem.sep a 0 h0) (c.mem.fits 0) o.mine
 game:=by
  have hgame:=c.game
  rw [hx]
  cases hM:M.x with
  | idle =>
   rw [hM] at hgame
   refine ⟨fun i sx hi=>?_,by rw [fd_ o.plain];exact hgame.deaf,fun g0 hg hb=>?_⟩
   ·by_cases hia:i+1=a
    ·obtain ⟨n,n',h1,h2,h3,h4⟩:=s.self i hia
     obtain ⟨m',e⟩:=(hgame.old i _ h1).out
     cases e
    ·rw [s.other i hia] at hi
     rw [dh_ hia]
     exact (hgame.old i sx hi).app fun op ho e=>hia (by rw [← e,o.g op ho])
   ·by_cases h0:0=a
    ·subst h0;rw [q.self] at hg;cases hg;cases hb
    ·exact hgame.runs g0 (q.back _ _ h0 hg hb) hb
  | game X =>
   rw [hM] at hgame
   obtain ⟨nb,hG⟩:=hgame
   exact ⟨nb,hG.own c.mem o kn q s (by intro e;cases e)⟩
 pool:=by
  rw [hx]
  refine c.pool.step (fun pl _ hsp hf=>⟨zz_ o.guar (hsp a) (c.mem.fits a) hf,fun i=>?_,fun op ho b hb x y hl=>?_⟩) s.len fun g wg m q i sx' hi=>?_
  ·by_cases hi:i=a
   ·subst hi;rw [cp_];exact we_ o.guar (hsp i) hf
   ·rw [dh_ hi];exact hsp i
  ·rcases o.mine op ho b hb with ⟨bl,o2,h1,_,h3⟩ | ⟨r,h1,_⟩
   ·rw [h1] at hl;cases hl
    rcases h3 with h3 | h3 | ⟨hw,h3⟩
    ·exact ⟨cq_ fun v e=>by have:=fr_ (hf.own _ _ _ e);omega,fun _=>cq_ fun v e=>by have:=fr_ (hf.ro _ _ _ e);omega⟩
    ·obtain ⟨v,hv⟩:=Option.isSome_iff_exists.1 h3
     exact ⟨(hsp a).oo _ _ _ hv,fun _=>(hsp a).wr _ _ _ hv⟩
    ·obtain ⟨v,hv⟩:=Option.isSome_iff_exists.1 h3
     exact ⟨(hsp a).rw _ _ _ hv,fun h=>by rw [hw] at h;cases h⟩
   ·rw [h1] at hl;cases hl
  ·by_cases hia:i+1=a
   ·obtain ⟨n,n',h1,h2,h3,h4⟩:=s.self i hia
    rw [h2] at hi;cases hi
    exact ⟨_,h1,fun ⟨n2,e,h⟩=>⟨n2,h3.trans e,h⟩⟩
   ·exact ⟨sx',by rw [← s.other i hia];exact hi,fun h=>by rw [dh_ hia];exact h⟩
theorem bxs {gs:Array Goroutine} {w:World} {t:Trace} {fr:Frame} {cs:List Frame} {h:Hp} {x:MX} {r:Run P (mHand P cv L.done L.tWg) true Em fr cs h x} {sl:List (Slot P cv L)} {hp:Nat→Hp} {g:Goroutine} {sc:Option (Nat × Nat)}
  (c:Cfg W0 gs w t (⟨fr,cs,h,x,r⟩:MN P cv L Em) sl hp) (hg:gs[0]?=some g) (hr:Runs g fr cs) (nx:Nx P Still true fr cs h w) (r':Run P (mHand P cv L.done L.tWg) true Em nx.fr' nx.cs' nx.h' x) :
  ∃ gs' ops,runT P (crowd gs w sc) 0=(.next (crowd gs' nx.w' sc),ops)∧Cfg W0 gs' nx.w' (t++ops) (⟨nx.fr',nx.cs',nx.h',x,r'⟩:MN P cv L Em) sl (put hp 0 nx.h'):=by
 have hst:stepG P ((0:Nat) == 0) g w=.go (G nx.fr' nx.cs') nx.w' nx.es:=by rw [hr.step];exact nx.step
 have h0:hp 0=h:=c.hp0
 refine ⟨_,_,runT_crowd_go hg hst,?_⟩
 refine Cfg.own c (Nat.zero_le _) (by rw [h0];exact mm_ nx.guar nx.evs) c.kn0 (gs_go hg) ⟨rfl,fun j _=>rfl,fun j hj=>by omega⟩ rfl (by rw [cp_]) (fun e=>absurd rfl e) (fun _=>⟨rfl,rfl⟩) (fun j n' hj=>by omega)
theorem bxr {gs:Array Goroutine} {w:World} {t:Trace} {M:MN P cv L Em} {sl:List (Slot P cv L)} {hp:Nat→Hp} {g:Goroutine} {sc:Option (Nat × Nat)} {i:Nat} {fr:Frame} {cs:List Frame} {h:Hp} {x:TX} {r:Run P (tHand P cv) false (tEnd P L.done) fr cs h x}
  (c:Cfg W0 gs w t M sl hp) (hi:sl[i]?=some (.act ⟨fr,cs,h,x,r⟩)) (hg:gs[i+1]?=some g) (hr:Runs g fr cs) (nx:Nx P Still false fr cs h w) (r':Run P (tHand P cv) false (tEnd P L.done) nx.fr' nx.cs' nx.h' x) :
  ∃ gs' ops,runT P (crowd gs w sc) (i+1)=(.next (crowd gs' nx.w' sc),ops)∧Cfg W0 gs' nx.w' (t++ops) M (sl.set i (.act ⟨nx.fr',nx.cs',nx.h',x,r'⟩)) (put hp (i+1) nx.h'):=by
 have hlt:i<sl.length:=(List.getElem?_eq_some_iff.1 hi).1
 have hst:stepG P (i+1 == 0) g w=.go (G nx.fr' nx.cs') nx.w' nx.es:=by rw [hr.step];exact nx.step
 have hkn:Kn t (Knows t (i+1)) (hp (i+1))∧h=hp (i+1):=by
  have hgame:=c.game
  cases hM:M.x with
  | idle=>rw [hM] at hgame;obtain ⟨m',e⟩:=(hgame.old i _ hi).out;cases e
  | game X =>
   rw [hM] at hgame
   obtain ⟨nb,hG⟩:=hgame
   by_cases hin:i<nb
   ·obtain ⟨m',e⟩:=(hG.old i _ hin hi).out;cases e
   ·have:=hG.know (i-nb) _ (by rw [Nat.add_sub_cancel' (by omega)];exact hi)
    rw [Nat.add_sub_cancel' (by omega)] at this
    exact ⟨this.1,this.2.1⟩
 obtain ⟨hkn,he⟩:=hkn
 refine ⟨_,_,runT_crowd_go hg hst,?_⟩
 refine Cfg.own c (by omega) (by rw [← he];exact mm_ nx.guar nx.evs) hkn (gs_go hg) ⟨by simp,fun j hj=>by rw [List.getElem?_set_ne (by omega)],fun j hj=>?_⟩ rfl (by rw [dh_ (by omega)];exact c.hp0.symm) (fun _=>rfl) (fun e=>by omega) (fun j n' hj hn=>?_)
 ·obtain rfl:j=i:=by omega
  exact ⟨_,⟨nx.fr',nx.cs',nx.h',x,r'⟩,hi,by simp [hlt],rfl,rfl⟩
 ·obtain rfl:j=i:=by omega
  simp [hlt] at hn
  subst hn
  exact ⟨rfl,rfl⟩
end Go.PB
namespace Go.PB
open Go.Conc Go.Conc.Lib
open Go.ConcR (KK stA smA rd wr mk DC0)
variable {W0:World} {P:Program} {cv:Value} {L:WgLink} {Em:Frame→List Frame→Hp→MX→Prop}
theorem xx_ {h:Hp} {w w':World} {ty:TypeId} {wg:Nat} {a b a' b':Int} (f:Fits h w) (hn:∀ o,h.own wg o=none∧h.ro wg o=none) (e:WgAt ty wg w a b) (e':WgAt ty wg w' a' b') (hw:∀ c,c≠wg→w'.heap[c]?=w.heap[c]?):Fits h w':=by
 obtain ⟨fz,e,_⟩:=e
 obtain ⟨fz',e',_⟩:=e'
 have hc:∀ c o,c≠wg→w'.cell? ⟨c,o,none⟩=w.cell? ⟨c,o,none⟩:=fun c o hne=>by unfold World.cell?;rw [hw c hne]
 have hfz:∀ c o,c≠wg→w'.frozen? ⟨c,o,none⟩=w.frozen? ⟨c,o,none⟩:=fun c o hne=>by unfold World.frozen?;rw [hw c hne]
 have no:∀ c o v,h.own c o=some v→c≠wg:=fun c o v hv he=>by subst he;rw [(hn o).1] at hv;cases hv
 have nr:∀ c o v,h.ro c o=some v→c≠wg:=fun c o v hv he=>by subst he;rw [(hn o).2] at hv;cases hv
 refine ⟨fun c o v hv=>by rw [hc _ _ (no _ _ _ hv)];exact f.own _ _ _ hv,fun c o v hv=>by rw [hfz _ _ (no _ _ _ hv)];exact f.thaw _ _ _ hv,fun c o v hv=>by rw [hc _ _ (nr _ _ _ hv)];exact f.ro _ _ _ hv,f.disj,fun c ob hv=>?_,f.objn,fun c y hv=>?_⟩
 ·by_cases hcw:c=wg
  ·subst hcw
   have h1:=f.obj _ _ hv
   rw [e] at h1;cases h1
   have:=f.objn _ _ hv
   simp [du_] at this
  ·rw [hw c hcw];exact f.obj _ _ hv
 ·by_cases hcw:c=wg
  ·subst hcw
   have h1:=f.shp _ _ hv
   unfold World.shape? at h1 ⊢
   rw [e] at h1;rw [e']
   simpa using h1
  ·unfold World.shape?;rw [hw c hcw];exact f.shp _ _ hv
structure Shy (wg a:Nat) (u:Trace):Prop where
 g:∀ op∈u,op.g=a
 touch:∀ op∈u,∀ b,op.act.touch?=some b→(∃ o,o<2∧b.loc=.cell ⟨wg,o,none⟩)∧b.kind=.atomic
 norel:∀ op∈u,∀ a,op.act≠.mark (.release a)
theorem ccd {said:Bool} {t u:Trace} {wg a:Nat} (nr:¬ Race said t) (s:Shy wg a u) (h:∀ i b o,o<2→touchAt t i=some b→b.loc=.cell ⟨wg,o,none⟩→(b.kind≠.plain∧(b.kind=.said→t.g? i=some 0))∨Knows t a i):¬ Race said (t++u) :=
 noRace_append nr s.g fun i b hb op ho b' hb' hc=>by
  obtain ⟨⟨o,ho2,h1⟩,h2⟩:=s.touch op ho b' hb'
  obtain ⟨hl,_,_,h3⟩:=hc
  rw [h1] at hl
  rcases h i b o ho2 hb hl with this | hk
  rotate_left
  ·exact hk
  rcases h3 with h3 | h3 | ⟨_,_,h3⟩
  ·exact absurd h3 this.1
  ·rw [h2] at h3;cases h3
  ·rw [h2] at h3;cases h3
theorem bfd {t u:Trace} {K K':Nat→Prop} {h:Hp} {wg a:Nat} (kn:Kn t K h) (hK:∀ j,K j→K' j) (s:Shy wg a u) (hn:∀ o,h.own wg o=none∧h.ro wg o=none):Kn (t++u) K' h where
 own:=fun b o v e i b' hb hl=>by
  rcases bp_ hb with hb | ⟨op,ho,_,h2⟩
  ·exact hK _ (kn.own _ _ _ e _ _ hb hl)
  ·obtain ⟨⟨o',_,h1⟩,_⟩:=s.touch op ho b' h2
   rw [h1] at hl;cases hl;rw [(hn o).1] at e;cases e
 ro:=fun b o v e i b' hb hl hw=>by
  rcases bp_ hb with hb | ⟨op,ho,_,h2⟩
  ·exact hK _ (kn.ro _ _ _ e _ _ hb hl hw)
  ·obtain ⟨⟨o',_,h1⟩,_⟩:=s.touch op ho b' h2
   rw [h1] at hl;cases hl;rw [(hn o).2] at e;cases e
 obj:=fun b v e i b' hb hl=>by
  rcases bp_ hb with hb | ⟨op,ho,_,h2⟩
  ·exact hK _ (kn.obj _ _ e _ _ hb hl)
  ·obtain ⟨⟨o',_,h1⟩,_⟩:=s.touch op ho b' h2
   rw [h1] at hl;cases hl
theorem Mem.shy {w w':World} {t u:Trace} {hp:Nat→Hp} {wg a:Nat} {ty:TypeId} {p q p' q':Int} (m:Mem w t hp) (s:Shy wg a u) (hn:∀ i o,(hp i).own wg o=none∧(hp i).ro wg o=none)
  (h:∀ i b o,o<2→touchAt t i=some b→b.loc=.cell ⟨wg,o,none⟩→(b.kind≠.plain∧(b.kind=.said→t.g? i=some 0))∨Knows t a i) (e:WgAt ty wg w p q) (e':WgAt ty wg w' p' q') (hw:∀ c,c≠wg→w'.heap[c]?=w.heap[c]?) (hs:w'.heap.size=w.heap.size):Mem w' (t++u) hp where
 fits:=fun i=>xx_ (m.fits i) (hn i) e e' hw
 sep:=m.sep
 nr:=fun said=>ccd (m.nr said) s h
 low:=fun i b hb=>by
  rw [hs]
  rcases bp_ hb with hb | ⟨op,ho,_,h2⟩
  ·exact m.low i b hb
  ·obtain ⟨⟨o',_,h1⟩,_⟩:=s.touch op ho b h2
   exact ⟨fun d hd=>(by rw [h1] at hd;cases hd;exact tq_ e),fun r hr=>by rw [h1] at hr;cases hr⟩
 norel:=fun op ho b=>(Array.mem_append.1 ho).elim (fun ho=>m.norel op ho b) (fun ho=>s.norel op ho b)
theorem Cfg.slot {gs gs':Array Goroutine} {w w':World} {t u:Trace} {M:MN P cv L Em} {sl:List (Slot P cv L)} {hp:Nat→Hp} {X:GX} {nb j:Nat} {s s':Slot P cv L} {g':Goroutine}
  (c:Cfg W0 gs w t M sl hp) (hX:M.x=.game X) (hG:GameAt X gs w t sl hp nb) (hs:sl[nb+j]?=some s) (q:Gs P (nb+j+1) gs gs' g') (hr:g'.status≠.blocked)
  (hsd:Side w w') (hw:∀ b,b≠X.wg→w'.heap[b]?=w.heap[b]?) (hsz:w'.heap.size=w.heap.size) (ph:WgPh L X ((sl.map Slot.stage).set (nb+j) s'.stage) w') (sh:Shy X.wg (nb+j+1) u)
  (sg:SlotG w' X.wg (Deaf (t++u) (nb+j+1)) g' s') (sk:pu_ (t++u) X.wg (nb+j+1) (hp (nb+j+1)) s') (sa:∀ c:St X,X.seats[j]?=some c→jb_ X c (hp (nb+j+1)) s')
  (sp:∀ (g:Game) (wg m:Nat) (q:g.θ) (h:Hp),ji_ wg m q h s→ji_ wg m q h s')
  (hsl:∀ g0,gs'[0]?=some g0→g0.status=.blocked→g0.offers=none→¬ WgAt L.tWg X.wg w' 0 1):Cfg W0 gs' w' (t++u) M (sl.set (nb+j) s') hp:=by
 have hlt:nb+j<sl.length:=(List.getElem?_eq_some_iff.1 hs).1
 obtain ⟨p1,p2,e1⟩:=hG.wg.ex
 obtain ⟨p3,p4,e2⟩:=ph.ex
 have hwg0:W0.heap.size≤X.wg:=by have:=c.aft.game;rw [hX] at this;exact this.1
 have hng:∀ i,i≠nb+j+1→∀ op∈u,op.g≠i:=fun i hi op ho e=>hi (by rw [← e,sh.g op ho])
 have hrl:RL L.tWg X.wg w w':=fun _=>⟨_,_,e2⟩
 have hmem:=c.mem.shy sh hG.nowg (fun i b o ho2 hb hl=>(hG.wgt i b o ho2 hb hl).imp id fun k=>k.2 j (by have:=hG.len;omega)) e1 e2 hw hsz
 refine ⟨by rw [q.size,List.length_set];exact c.size,?_,fun i sx hi=>?_,hmem,c.aft.at_block hwg0 hsd hw hsz c.aft.game,c.hp0,fun i hi=>c.hpn i (by simpa using hi),fun i op hi=>?_,?_,?_,?_⟩
 ·obtain ⟨g,h1,h2⟩:=c.main
  obtain ⟨x,x',w2,h3⟩:=q.other 0 g (by omega) h1
  exact ⟨_,h3,h2.woken⟩
 ·rw [hX]
  by_cases hij:i=nb+j
  ·subst hij
   simp [hlt] at hi
   subst hi
   exact ⟨_,q.self,sg⟩
  ·rw [List.getElem?_set_ne fun e=>hij e.symm] at hi
   obtain ⟨g,h1,h2⟩:=c.thr i sx hi
   rw [hX] at h2
   obtain ⟨x,x',w2,h3⟩:=q.other (i+1) g (by omega) h1
   exact ⟨_,h3,hg_ (dc_ (hng _ (by omega))) hrl h2⟩
 ·simp only [List.length_set]
  rcases getElem?_append_cases hi with ⟨_,h⟩ | ⟨_,h⟩
  ·exact c.tg i op h
  ·rw [sh.g op h];omega
 ·exact bfd c.kn0 (fun j h=>h.app u) sh (hG.nowg 0)
 ·rw [hX]
  refine ⟨nb,⟨by rw [List.length_set];exact hG.len,fun i sx hi hc=>?_,fun k cx hc=>?_,fun k sx hc=>?_,fun k cx hc b hb=>?_,hG.dist,hG.noch,hG.nowg,by simpa only [List.map_set] using ph,fun i b o ho2 hb hl=>?_,?_,hG.tok0,hG.tok1,hG.adp,hG.ads,hG.adl,fun k cx g hc hg hsx hb=>?_,fun g0 cases shp hg hb ho=>?_,fun g0 hg hb ho=>⟨?_,hsl g0 hg hb ho⟩,fun k cx b i x hc hb hx hl=>?_⟩⟩
  ·rw [List.getElem?_set_ne (by omega)] at hc
   exact (hG.old i sx hi hc).app (hng _ (by omega))
  ·obtain ⟨sx,h1,h2⟩:=hG.seat k cx hc
   by_cases hkj:k=j
   ·subst hkj;exact ⟨s',by simp [hlt],sa cx hc⟩
   ·exact ⟨sx,by rw [List.getElem?_set_ne (by omega)];exact h1,h2⟩
  ·by_cases hkj:k=j
   ·subst hkj
    simp [hlt] at hc
    subst hc;exact sk
   ·rw [List.getElem?_set_ne (by omega)] at hc
    exact (hG.know k sx hc).app (hng _ (by omega)) fun kk hK=>bfd kk hK sh (hG.nowg _)
  ·obtain ⟨n,e⟩:=hG.chan k cx hc b hb
   refine ⟨n,?_⟩
   rw [hw _ fun he=>?_]
   ·exact e
   ·obtain ⟨_,e1,_⟩:=e1;rw [he] at e;rw [e1] at e;cases e
  ·rcases bp_ hb with hb | ⟨op,ho,hi,h2⟩
   ·rcases hG.wgt i b o ho2 hb hl with this | ⟨k0,k1⟩
    ·refine .inl ⟨this.1,fun hsd=>?_⟩
     have h1:=this.2 hsd
     rw [g?_app (g?_lt h1)];exact h1
    ·exact .inr ⟨k0.app u,fun j hj=>(k1 j hj).app u⟩
   ·have:=(sh.touch op ho b h2).2
    rw [this];exact .inl ⟨by simp,fun h=>by cases h⟩
  ·rw [dc_ (hng 0 (by omega))];exact hG.deaf
  ·by_cases hkj:k=j
   ·subst hkj;rw [q.self] at hg;cases hg;exact hr hb
   ·exact hG.live k cx g hc (q.back _ _ (by omega) hg hb) hsx hb
  ·obtain ⟨k,cx,h1,h2,h3,h4⟩:=hG.park g0 cases shp (q.back _ _ (by omega) hg hb) hb ho
   refine ⟨k,cx,h1,h2,h3,fun g hg2 hb2=>?_⟩
   by_cases hkj:k=j
   ·subst hkj;rw [q.self] at hg2;cases hg2;exact hr hb2
   ·exact h4 g (q.back _ _ (by omega) hg2 hb2) hb2
  ·exact (hG.sleep g0 (q.back _ _ (by omega) hg hb) hb ho).1
  ·rcases bp_ hx with hx | ⟨op,ho,_,h2⟩
   ·exact (hG.cht k cx b i x hc hb hx hl).app u
   ·obtain ⟨⟨o',_,h1⟩,_⟩:=sh.touch op ho x h2
    rw [h1] at hl;cases hl
 ·refine c.pool.step (fun pl hw' hs' hf=>⟨xx_ hf (hw' X hX) e1 e2 hw,hs',fun op ho b hb x y hl=>?_⟩) (by rw [List.length_set]) fun g wg m q i sx' hi=>?_
  ·obtain ⟨⟨o',_,h1⟩,_⟩:=sh.touch op ho b hb
   rw [h1] at hl;cases hl
   exact ⟨(hw' X hX _).1,fun _=>(hw' X hX _).2⟩
  ·by_cases hij:i=nb+j
   ·subst hij
    simp [hlt] at hi
    subst hi
    exact ⟨s,hs,sp g wg m q _⟩
   ·rw [List.getElem?_set_ne fun e=>hij e.symm] at hi
    exact ⟨sx',hi,id⟩
end Go.PB
namespace Go.PB
open Go.Conc Go.Conc.Lib
open Go.ConcR (KK stA smA rd wr mk DC0)
theorem sj_ {p:Nat→Bool}:∀ {l:List Nat} {i a:Nat} (b:Nat),l[i]?=some a→((l.set i b).filter p).length+(if p a then 1 else 0)=(l.filter p).length+(if p b then 1 else 0)
 | x::l,0,a,b,h=>by
  simp at h;subst h
  simp only [List.set_cons_zero,List.filter_cons]
  cases p b <;> cases p x <;> simp
 | x::l,i+1,a,b,h=>by
  have ih:=sj_ (p:=p) (l:=l) (i:=i) b (by simpa using h)
  simp only [List.set_cons_succ,List.filter_cons]
  cases p x <;> simp <;> omega
 | [],i,a,b,h=>by simp at h
theorem bdn {p:Nat→Bool} {l:List Nat} {i a:Nat} (h:l[i]?=some a) (hp:p a=true):0<(l.filter p).length :=
 List.length_pos_of_mem (List.mem_filter.2 ⟨List.mem_of_getElem? h,hp⟩)
theorem bxn {p:Nat→Bool} {l:List Nat} {i a:Nat} (h:l[i]?=some a) (hp:p a=true) (h0:p 0=false) (h1:(l.filter p).length=1):∀ j k,l[j]?=some k→j≠i→p k=false:=by
 intro j k hj hne
 have:=sj_ (p:=p) 0 h
 rw [hp,h0,h1] at this
 simp at this
 by_cases hk:p k=true
 ·have h2:(l.set i 0)[j]?=some k:=by rw [List.getElem?_set_ne fun e=>hne e.symm];exact hj
  have:=this k (List.mem_of_getElem? h2)
  rw [hk] at this;cases this
 ·simpa using hk
theorem tk_ {p:Nat→Bool} (h0:p 0=false):∀ {l:List Nat} {n:Nat},(∀ i k,i<n→l[i]?=some k→k=0)→(l.filter p).length≤l.length-n
 | [],n,_=>by simp
 | x::l,0,_=>by simpa using List.length_filter_le p (x::l)
 | x::l,n+1,h=>by
  have hx:x=0:=h 0 x (by omega) rfl
  subst hx
  have:=tk_ (p:=p) h0 (l:=l) (n:=n) fun i k hi hk=>h (i+1) k (by omega) (by simpa using hk)
  simp only [List.filter_cons,h0]
  simpa using this
section
variable {L:WgLink} {X:GX} {st:List Nat} {w w':World} {I:Nat}
theorem WgPh.far {a b:Nat} (p:WgPh L X st w) (hi:st[I]?=some a) (ha:4≤a) (hb:4≤b) (h:∀ x y,WgAt L.tWg X.wg w x y→WgAt L.tWg X.wg w' x y):WgPh L X (st.set I b) w':=by
 have hlt:=(List.getElem?_eq_some_iff.1 hi).1
 cases p with
 | quiet v wt at_ hv late hw park bb =>
  have:=sj_ (p:=fun k=>decide (4≤k)) b hi
  simp only [ha,hb,decide_true,if_true] at this
  refine .quiet v wt (h _ _ at_) (by omega) (fun k hk=>?_) hw park bb
  rcases List.mem_or_eq_of_mem_set hk with hk | rfl
  ·exact late k hk
  ·exact .inr hb
 | late p i k hik hk at_ oth =>
  exfalso
  by_cases e:I=i
  ·subst e;rw [hi] at hik;cases hik;omega
  ·have:=oth I a hi e;omega
 | late1 p i hik at_ oth =>
  exfalso
  by_cases e:I=i
  ·subst e;rw [hi] at hik;cases hik;omega
  ·have:=oth I a hi e;omega
 | free p at_ oth=>exfalso;have:=oth a (List.mem_of_getElem? hi);omega
theorem WgPh.same {a:Nat} (p:WgPh L X st w) (hi:st[I]?=some a) (h:∀ x y,WgAt L.tWg X.wg w x y→WgAt L.tWg X.wg w' x y):WgPh L X (st.set I a) w':=by
 have hlt:=(List.getElem?_eq_some_iff.1 hi).1
 have e:st.set I a=st:=by
  apply List.ext_getElem?
  intro j
  by_cases hj:I=j
  ·subst hj;rw [List.getElem?_set_self hlt,hi]
  ·rw [List.getElem?_set_ne hj]
 rw [e]
 exact p.at h
theorem WgPh.at4 (p:WgPh L X st w) (hi:st[I]?=some 4):∃ v wt:Nat,WgAt L.tWg X.wg w (v*KK+wt) 0∧v+(X.seats.length+X.nf)=(st.filter fun k=>decide (4≤k)).length+X.ad∧(∀ k∈st,k=0∨4≤k) ∧
  wt=(match X.wt with | .parked=>1 | _=>0)∧(X.wt=.parked→0<v)∧(match X.wt with | .wait b=>v≤b | .seen v0=>v≤v0 | .woken=>v=0 | .zero=>v=0 | _=>True):=by
 cases p with
 | quiet v wt at_ hv late hw park bb=>exact ⟨v,wt,at_,hv,late,hw,park,bb⟩
 | late p i k hik hk at_ oth =>
  exfalso
  by_cases e:I=i
  ·subst e;rw [hi] at hik;cases hik;omega
  ·have:=oth I 4 hi e;omega
 | late1 p i hik at_ oth =>
  exfalso
  by_cases e:I=i
  ·subst e;rw [hi] at hik;cases hik
  ·have:=oth I 4 hi e;omega
 | free p at_ oth=>exfalso;have:=oth 4 (List.mem_of_getElem? hi);omega
theorem WgPh.at23 {k:Nat} (p:WgPh L X st w) (hi:st[I]?=some k) (hk:k=3∨k=2):X.wt=.parked∧WgAt L.tWg X.wg w 1 0∧∀ j k,st[j]?=some k→j≠I→k=0:=by
 cases p with
 | quiet v wt at_ hv late hw park bb=>exfalso;have:=late k (List.mem_of_getElem? hi);omega
 | late p i k' hik hk' at_ oth =>
  by_cases e:I=i
  ·subst e;exact ⟨p,at_,oth⟩
  ·exfalso;have:=oth I k hi e;omega
 | late1 p i hik at_ oth =>
  exfalso
  by_cases e:I=i
  ·subst e;rw [hi] at hik;cases hik;omega
  ·have:=oth I k hi e;omega
 | free p at_ oth=>exfalso;have:=oth k (List.mem_of_getElem? hi);omega
theorem WgPh.at1 (p:WgPh L X st w) (hi:st[I]?=some 1):X.wt=.parked∧WgAt L.tWg X.wg w 0 0∧∀ j k,st[j]?=some k→j≠I→k=0:=by
 cases p with
 | quiet v wt at_ hv late hw park bb=>exfalso;have:=late 1 (List.mem_of_getElem? hi);omega
 | late p i k' hik hk' at_ oth =>
  exfalso
  by_cases e:I=i
  ·subst e;rw [hi] at hik;cases hik;omega
  ·have:=oth I 1 hi e;omega
 | late1 p i hik at_ oth =>
  by_cases e:I=i
  ·subst e;exact ⟨p,at_,oth⟩
  ·exfalso;have:=oth I 1 hi e;omega
 | free p at_ oth=>exfalso;have:=oth 1 (List.mem_of_getElem? hi);omega
theorem WgPh.notFree {k:Nat} (p:WgPh L X st w) (hi:st[I]?=some k) (hk:0<k):¬ WgAt L.tWg X.wg w 0 1:=by
 intro hx
 cases p with
 | quiet v wt at_ hv late hw park bb=>exact absurd (at_.unique hx).2 (by decide)
 | late p i k' hik hk' at_ oth=>exact absurd (at_.unique hx).2 (by decide)
 | late1 p i hik at_ oth=>exact absurd (at_.unique hx).2 (by decide)
 | free p at_ oth=>have:=oth k (List.mem_of_getElem? hi);omega
end
def EvShy (wg:Nat) (e:Event):Prop:=(∃ m,e=⟨.mark m,false,true⟩∧(MemAct.mark m).touch?=none∧∀ a,m≠.release a)∨∃ o wr,e=⟨.cell ⟨wg,o,none⟩,wr,true⟩∧o<2
theorem pb_ {wg:Nat} {e:Event} (h:EvShy wg e):(∀ b,(MemAct.ofEvent e).touch?=some b→(∃ o,o<2∧b.loc=.cell ⟨wg,o,none⟩)∧b.kind=.atomic)∧∀ a,MemAct.ofEvent e≠.mark (.release a):=by
 rcases h with ⟨m,rfl,h1,h2⟩ | ⟨o,wr,rfl,ho2⟩
 ·refine ⟨fun b hb=>?_,fun a ha=>?_⟩
  ·have:(MemAct.ofEvent ⟨.mark m,false,true⟩).touch?=none:=h1
   rw [this] at hb;cases hb
  ·have:MemAct.ofEvent ⟨.mark m,false,true⟩=.mark m:=rfl
   rw [this] at ha;cases ha;exact h2 a rfl
 ·refine ⟨fun b hb=>?_,fun a ha=>?_⟩
  ·have:(MemAct.ofEvent ⟨.cell ⟨wg,o,none⟩,wr,true⟩).touch?=some ⟨.cell ⟨wg,o,none⟩,wr,.atomic⟩:=by cases wr <;> rfl
   rw [this] at hb;cases hb;exact ⟨⟨o,ho2,rfl⟩,rfl⟩
  ·cases wr <;> cases ha
theorem bpf {wg a:Nat} {fn:FuncId} {pos:String} {es:Array Event} (h:∀ e∈es,EvShy wg e):Shy wg a (MemOp.ofEvents a fn pos es) where
 g:=fun op ho=>by obtain ⟨e,_,rfl⟩:=co_ ho;rfl
 touch:=fun op ho b hb=>by obtain ⟨e,h1,rfl⟩:=co_ ho;exact (pb_ (h e h1)).1 b hb
 norel:=fun op ho b=>by obtain ⟨e,h1,rfl⟩:=co_ ho;exact (pb_ (h e h1)).2 b
theorem bzd {t:Trace} {K K':Nat→Prop} {a wg:Nat} {fn:FuncId} {pos:String} {es:Array Event} (h:AllK t a K) (hK:∀ j,K j→K' j) (hes:∀ e∈es,EvShy wg e)
  (hd:∀ (j:Nat) (e:Event),es[j]?=some e→(MemAct.ofEvent e).touch?≠none→0<deafBehind (Deaf t a) (es.extract 0 j)):AllK (t++MemOp.ofEvents a fn pos es) a K':=by
 intro j hj hc
 rcases Nat.lt_or_ge j t.size with hlt | hge
 ·exact hK _ (h j (by rw [← g?_app hlt];exact hj) ((gv_ hlt).1 hc))
 ·exfalso
  obtain ⟨x,h1,h2,h3⟩:=hc
  obtain ⟨op,ho,hx⟩:=touch_of h1
  obtain ⟨i,rfl⟩:∃ i,j=t.size+i:=⟨j-t.size,by omega⟩
  have ho':(MemOp.ofEvents a fn pos es)[i]?=some op:=by
   rw [Array.getElem?_append_right (by omega)] at ho
   simpa using ho
  rw [ofEvents_eq] at ho'
  rw [Array.getElem?_map] at ho'
  obtain ⟨e,he,rfl⟩:=Option.map_eq_some_iff.1 ho'
  have hem:e∈es:=Array.mem_of_getElem? he
  have hk:=((pb_ (hes e hem)).1 x hx).2
  rcases h3 with h3 | ⟨g,hg,hd0⟩
  ·exact h3 hk
  ·have hlt:=(Array.getElem?_eq_some_iff.1 he).1
   rw [hj] at hg;cases hg
   rw [deaf_inside t a fn pos es i (by omega)] at hd0
   have:=hd i e he (by rw [hx];simp)
   omega
end Go.PB
namespace Go.PB
open Go.Conc Go.Conc.Lib
open Go.ConcR (KK stA smA rd wr mk DC0)
variable {W0:World} {P:Program} {cv:Value} {L:WgLink} {Em:Frame→List Frame→Hp→MX→Prop}
theorem bgt {o:Goroutine} {w:World} (h:(o.again w).status=.blocked):(o.again w).offers≠none:=by
 intro hn
 rcases ho:o.offers with _ | ⟨a,b⟩ <;> cases hs:o.status <;> simp only [Goroutine.again,hs,ho] at h hn <;> first | (cases h;done) | (rw [hs] at h;cases h;done) | (split at hn <;> (simp only [ho] at hn;cases hn;done)) | (rw [ho] at hn;cases hn;done) | skip
theorem g?_of {t:Trace} {i:Nat} {op:MemOp} (h:t[i]?=some op):t.g? i=some op.g:=by simp [Trace.g?,h]
theorem gs_ {w:World} {a:Addr} {v:Value} {b:Nat} (h:b≠a.block):(w.setCell a v).heap[b]?=w.heap[b]?:=by
 unfold World.setCell
 simp only [Array.getElem?_modify]
 rw [if_neg fun e=>h e.symm]
theorem fy_ {w:World} {a:Addr} {v:Value}:(w.setCell a v).heap.size=w.heap.size:=by
 unfold World.setCell;simp
theorem je_ {t:Trace} {wg a:Nat} {h:Hp} {fn:FuncId} {pos:String} {es:Array Event} (k:∃ p,Rel t wg a p∧Kn t (fun j=>Before t j p) h∧AllK t a fun j=>Before t j p) (hn:∀ o,h.own wg o=none∧h.ro wg o=none) (hes:∀ e∈es,EvShy wg e)
  (hd:∀ (j:Nat) (e:Event),es[j]?=some e→(MemAct.ofEvent e).touch?≠none→0<deafBehind (Deaf t a) (es.extract 0 j)) :
  ∃ p,Rel (t++MemOp.ofEvents a fn pos es) wg a p∧Kn (t++MemOp.ofEvents a fn pos es) (fun j=>Before (t++MemOp.ofEvents a fn pos es) j p) h∧AllK (t++MemOp.ofEvents a fn pos es) a fun j=>Before (t++MemOp.ofEvents a fn pos es) j p:=by
 obtain ⟨p,h1,h2,h3⟩:=k
 exact ⟨p,h1.app _,bfd h2 (fun j h=>h.app _) (bpf hes) hn,bzd h3 (fun j h=>h.app _) hes hd⟩
section
variable {gs:Array Goroutine} {w:World} {t:Trace} {M:MN P cv L Em} {sl:List (Slot P cv L)} {hp:Nat→Hp} {X:GX} {nb j k m:Nat} {g:Goroutine} {sc:Option (Nat × Nat)}
theorem cmk (c:Cfg W0 gs w t M sl hp) (hX:M.x=.game X) (hG:GameAt X gs w t sl hp nb) (hs:sl[nb+j]?=some (.out (k+1) m)) (hg:gs[nb+j+1]?=some g) :
  ∃ gs' w' ops k' m',runT P (crowd gs w sc) (nb+j+1)=(.next (crowd gs' w' sc),ops)∧(k'<k+1∨(k'=k+1∧m'<m))∧Cfg W0 gs' w' (t++ops) M (sl.set (nb+j) (.out k' m')) hp:=by
 obtain ⟨g0,hg0,hz⟩:=c.thr _ _ hs
 rw [hg] at hg0;cases hg0
 rw [hX] at hz
 replace hz:Zg P L.tWg X.wg (ZS P L.tWg X.wg (k+1)) m g w:=hz
 have hst:(sl.map Slot.stage)[nb+j]?=some (k+1):=by rw [List.getElem?_map,hs];rfl
 have hseat:∀ cs:St X,X.seats[j]?=some cs→jb_ X cs (hp (nb+j+1)) (.out (k+1) m:Slot P cv L):=fun cs hcs=>by
  obtain ⟨s,h1,h2⟩:=hG.seat j cs hcs
  rw [hs] at h1;cases h1;exact h2
 have hkn:=hG.know j _ hs
 have hk6:k+1≤6:=by
  obtain ⟨h,_⟩ | ⟨h,_⟩:=hkn
  ·omega
  ·omega
 have hnw:=hG.nowg (nb+j+1)
 have key:∀ {g':Goroutine} {w':World} {es:Array Event} {k' m':Nat},stepG P false g w=.go g' w' es→(∀ e∈es,EvShy X.wg e)→(k'<k+1∨(k'=k+1∧m'<m))→Side w w'→(∀ b,b≠X.wg→w'.heap[b]?=w.heap[b]?)→w'.heap.size=w.heap.size →
   WgPh L X ((sl.map Slot.stage).set (nb+j) k') w'→SlotG w' X.wg (deafBehind (Deaf t (nb+j+1)) es) g' (.out k' m':Slot P cv L)→pu_ (t++MemOp.ofEvents (nb+j+1) g.frame.fn g.frame.place es) X.wg (nb+j+1) (hp (nb+j+1)) (.out k' m':Slot P cv L) →
   g'.status≠.blocked→(¬ WgAt L.tWg X.wg w' 0 1∨(mayWake P g=true∧g'.status≠.waiting)) →
   ∃ gs' w' ops k' m',runT P (crowd gs w sc) (nb+j+1)=(.next (crowd gs' w' sc),ops)∧(k'<k+1∨(k'=k+1∧m'<m))∧Cfg W0 gs' w' (t++ops) M (sl.set (nb+j) (.out k' m')) hp:=by
  intro g' w' es k' m' hstep hes hlt hsd hw hsz ph sg sk hnb hsl
  have hst':stepG P (nb+j+1 == 0) g w=.go g' w' es:=hstep
  refine ⟨_,_,_,k',m',runT_crowd_go hg hst',hlt,?_⟩
  refine Cfg.slot c hX hG hs (gs_go hg) hnb hsd hw hsz ph (bpf hes) (by rw [Deaf_own];exact sg) sk (fun cx hcx=>?_) (fun _ _ _ _ _ h=>h) (fun g0 h0 hb ho hx=>?_)
  ·exact ⟨by omega,(hseat cx hcx).2⟩
  ·rcases hsl with hsl | ⟨h1,h2⟩
   ·exact hsl hx
   ·rw [Array.getElem?_setIfInBounds_ne (by omega),Array.getElem?_map] at h0
    obtain ⟨o,e1,e2⟩:=Option.map_eq_some_iff.1 h0
    have hwk:woken P g g' w' o=o.again w':=by
     unfold woken
     rw [if_pos]
     simp only [h1,Bool.true_and,Bool.and_eq_true]
     exact ⟨by simpa using hnb,by simpa using h2⟩
    rw [hwk] at e2
    subst e2
    exact bgt hb ho
 rcases cgs hz with hz | ⟨m',g',rfl,hstep,hz'⟩
 ·rcases k with _ | _ | _ | _ | _ | _ | k
  ·-- it lets the starter go
   obtain ⟨hr,hmw,hz⟩:=(show Z4 P L.tWg X.wg g w from hz)
   obtain ⟨hp1,hat,hoth⟩:=hG.wg.at1 hst
   obtain ⟨g',q,hstep,hq⟩:=hz hat
   obtain ⟨h6,_,_⟩ | ⟨_,hlv,_,hdf⟩:=hkn
   ·omega
   have hd:Deaf t (nb+j+1)=1:=hdf (by omega) (by omega)
   refine key (k':=0) (m':=q) hstep (fun e he=>?_) (by omega) fx_ (fun b hb=>gs_ hb) fy_ (.free hp1 (hat.setSm 1) fun k hk=>?_) (by rw [hd];exact hq) (.inr ⟨by omega,je_ hlv hnw ?_ ?_,fun h=>by omega,fun h=>by omega⟩) (fun h=>by have:=QuitsD.status hq;rw [h] at this;rcases this with h | h <;> cases h) (.inr ⟨hmw,fun h=>by have:=QuitsD.status hq;rw [h] at this;rcases this with h | h <;> cases h⟩)
   ·simp only [semEvents,List.mem_toArray,List.mem_cons,List.not_mem_nil,or_false] at he
    rcases he with rfl | rfl | rfl | rfl
    ·exact .inl ⟨_,rfl,rfl,fun a h=>by cases h⟩
    ·exact .inr ⟨_,_,rfl,by decide⟩
    ·exact .inr ⟨_,_,rfl,by decide⟩
    ·exact .inl ⟨_,rfl,rfl,fun a h=>by cases h⟩
   ·obtain ⟨i,hi⟩:=List.getElem?_of_mem hk
    by_cases e:i=nb+j
    ·subst e
     rw [List.getElem?_set_self (by simpa using (List.getElem?_eq_some_iff.1 hst).1)] at hi
     cases hi;rfl
    ·rw [List.getElem?_set_ne fun h=>e h.symm] at hi
     exact hoth i k hi e
   ·intro e he
    simp only [semEvents,List.mem_toArray,List.mem_cons,List.not_mem_nil,or_false] at he
    rcases he with rfl | rfl | rfl | rfl
    ·exact .inl ⟨_,rfl,rfl,fun a h=>by cases h⟩
    ·exact .inr ⟨_,_,rfl,by decide⟩
    ·exact .inr ⟨_,_,rfl,by decide⟩
    ·exact .inl ⟨_,rfl,rfl,fun a h=>by cases h⟩
   ·intro i e he ht
    rw [hd]
    rcases i with _ | _ | _ | _ | i
    ·simp only [semEvents] at he ⊢;simp [deafBehind]
    ·simp only [semEvents] at he ⊢;simp [deafBehind]
    ·simp only [semEvents] at he ⊢;simp [deafBehind]
    ·simp only [semEvents] at he ⊢;simp [deafBehind]
    ·simp [semEvents] at he
  ·-- the count is laid to nought
   obtain ⟨hr,hz⟩:=(show Z3 P L.tWg X.wg g w from hz)
   obtain ⟨hp1,hat,hoth⟩:=hG.wg.at23 hst (.inr rfl)
   obtain ⟨g',q,hstep,hq⟩:=hz hat
   obtain ⟨h6,_,_⟩ | ⟨_,hlv,_,hdf⟩:=hkn
   ·omega
   have hd:Deaf t (nb+j+1)=1:=hdf (by omega) (by omega)
   have hes:∀ e∈#[wr (stA X.wg)],EvShy X.wg e:=fun e he=>by simp at he;subst he;exact .inr ⟨_,_,rfl,by decide⟩
   refine key (k':=1) (m':=q) hstep hes (by omega) fx_ (fun b hb=>gs_ hb) fy_ (.late1 hp1 (nb+j) (List.getElem?_set_self (List.getElem?_eq_some_iff.1 hst).1) (hat.setSt 0) fun i k hi e=>hoth i k (by rwa [List.getElem?_set_ne fun h=>e h.symm] at hi) e) hq
    (.inr ⟨by omega,je_ hlv hnw hes fun i e he ht=>?_,fun h=>by omega,fun _ _=>?_⟩) (fun h=>by have:=fi_ (k:=1) hq;rw [h] at this;cases this) (.inl fun hx=>absurd ((hat.setSt 0).unique hx).2 (by decide))
   ·rw [hd]
    rcases i with _ | i
    ·simp [deafBehind]
    ·simp at he
   ·rw [Deaf_own,hd];rfl
  ·-- the count is looked at again
   obtain ⟨hr,hz⟩:=(show Z2 P L.tWg X.wg g w from hz)
   obtain ⟨hp1,hat,hoth⟩:=hG.wg.at23 hst (.inl rfl)
   obtain ⟨g',q,hstep,hq⟩:=hz hat
   obtain ⟨h6,_,_⟩ | ⟨_,hlv,_,hdf⟩:=hkn
   ·omega
   have hd:Deaf t (nb+j+1)=1:=hdf (by omega) (by omega)
   have hes:∀ e∈#[rd (stA X.wg)],EvShy X.wg e:=fun e he=>by simp at he;subst he;exact .inr ⟨_,_,rfl,by decide⟩
   refine key (k':=2) (m':=q) hstep hes (by omega) Side.refl (fun b hb=>rfl) rfl (.late hp1 (nb+j) 2 (List.getElem?_set_self (List.getElem?_eq_some_iff.1 hst).1) (.inr rfl) hat fun i k hi e=>hoth i k (by rwa [List.getElem?_set_ne fun h=>e h.symm] at hi) e) hq
    (.inr ⟨by omega,je_ hlv hnw hes fun i e he ht=>?_,fun h=>by omega,fun _ _=>?_⟩) (fun h=>by have:=fi_ (k:=2) hq;rw [h] at this;cases this) (.inl fun hx=>absurd (hat.unique hx).2 (by decide))
   ·rw [hd]
    rcases i with _ | i
    ·simp [deafBehind]
    ·simp at he
   ·rw [Deaf_own,hd];rfl
  ·-- it counts itself out
   obtain ⟨hr,hz⟩:=(show Z1 P L.tWg X.wg g w from hz)
   obtain ⟨v,wt,hat,hv,hlate,hwt,hpark,hb⟩:=hG.wg.at4 hst
   have hcnt:=bdn (p:=fun k=>decide (4≤k)) hst rfl
   have htail:=tk_ (p:=fun k=>decide (4≤k)) rfl (l:=sl.map Slot.stage) (n:=nb) fun i k hi hk=>by
    rw [List.getElem?_map] at hk
    obtain ⟨s,e1,e2⟩:=Option.map_eq_some_iff.1 hk
    obtain ⟨m',rfl⟩:=(hG.old i s hi e1).out
    exact e2.symm
   have hlen:=hG.len
   have hadl:=hG.adl
   have hadn:X.seats.length+X.nf≤X.ad:=by
    by_cases hpl:X.wt=.play
    ·rcases hG.adp hpl with h | h <;> omega
    ·exact Nat.le_of_eq (hG.ads hpl).1.symm
   simp only [List.length_map] at htail
   obtain ⟨v,rfl⟩:∃ v',v=v'+1:=⟨v-1,by omega⟩
   have hwt1:wt≤1:=by rw [hwt];split <;> omega
   obtain ⟨g',hstep,hq1,hq0⟩:=hz v wt hwt1 (by omega) (by push_cast at hat;exact hat)
   obtain ⟨h6,_,_⟩ | ⟨_,hlv,_,hdf⟩:=hkn
   ·omega
   have hd:Deaf t (nb+j+1)=1:=hdf (by omega) (by omega)
   have hes:∀ e∈#[rd (stA X.wg),wr (stA X.wg)],EvShy X.wg e:=fun e he=>by
    simp at he
    rcases he with rfl | rfl <;> exact .inr ⟨_,_,rfl,by decide⟩
   have hdi:∀ (i:Nat) (e:Event),(#[rd (stA X.wg),wr (stA X.wg)]:Array Event)[i]?=some e→(MemAct.ofEvent e).touch?≠none→0<deafBehind (Deaf t (nb+j+1)) ((#[rd (stA X.wg),wr (stA X.wg)]:Array Event).extract 0 i):=fun i e he ht=>by
    rw [hd]
    rcases i with _ | _ | i
    ·simp [deafBehind]
    ·simp [deafBehind,rd]
    ·simp at he
   have hset:=sj_ (p:=fun k=>decide (4≤k)) (b:=0) hst
   simp at hset
   by_cases hl:v=0∧wt=1
   ·obtain ⟨q,hq⟩:=hq1 hl
    obtain ⟨rfl,rfl⟩:=hl
    have hp1:X.wt=.parked:=by
     revert hwt
     cases X.wt <;> simp
    have had:=(hG.ads (by rw [hp1];simp)).1
    have hone:=bxn (p:=fun k=>decide (4≤k)) hst rfl rfl (by omega)
    refine key (k':=3) (m':=q) hstep hes (by omega) fx_ (fun b hb=>gs_ hb) fy_ (.late hp1 (nb+j) 3 (List.getElem?_set_self (List.getElem?_eq_some_iff.1 hst).1) (.inl rfl) (by simpa using hat.setSt _) fun i k hi e=>?_) hq
     (.inr ⟨by omega,je_ hlv hnw hes hdi,fun h=>by omega,fun _ _=>?_⟩) (fun h=>by have:=fi_ (k:=3) hq;rw [h] at this;cases this) (.inl fun hx=>absurd ((hat.setSt _).unique hx).2 (by decide))
    ·rw [List.getElem?_set_ne fun h=>e h.symm] at hi
     have h1:=hone i k hi e
     have h2:=hlate k (List.mem_of_getElem? hi)
     simp at h1
     omega
    ·rw [Deaf_own,hd];rfl
   ·obtain ⟨q,hq⟩:=hq0 hl
    refine key (k':=0) (m':=q) hstep hes (by omega) fx_ (fun b hb=>gs_ hb) fy_ (.quiet v wt (hat.setSt _) (by omega) (fun k hk=>?_) hwt (fun hp1=>?_) ?_) (by rw [hd];exact hq)
     (.inr ⟨by omega,je_ hlv hnw hes hdi,fun h=>by omega,fun h=>by omega⟩) (fun h=>by have:=QuitsD.status hq;rw [h] at this;rcases this with h | h <;> cases h) (.inl fun hx=>absurd ((hat.setSt _).unique hx).2 (by decide))
    ·rcases List.mem_or_eq_of_mem_set hk with hk | rfl
     ·exact hlate k hk
     ·exact .inl rfl
    ·have:wt=1:=by rw [hwt,hp1]
     omega
    ·revert hb
     cases X.wt <;> simp <;> omega
  ·-- it is deaf from here on
   obtain ⟨hr,g',q,hstep,hq⟩:=(show ZK P L.tWg X.wg g w from hz)
   obtain ⟨h6,_,_⟩ | ⟨_,hlv,hdf,_⟩:=hkn
   ·omega
   have hd:Deaf t (nb+j+1)=0:=hdf rfl
   have hes:∀ e∈#[mk .disable],EvShy X.wg e:=fun e he=>by simp at he;subst he;exact .inl ⟨_,rfl,rfl,fun a h=>by cases h⟩
   refine key (k':=4) (m':=q) hstep hes (by omega) Side.refl (fun b hb=>rfl) rfl (hG.wg.far hst (by omega) (by omega) fun _ _ h=>h) hq
    (.inr ⟨by omega,je_ hlv hnw hes fun i e he ht=>?_,fun h=>by omega,fun _ _=>?_⟩) (fun h=>by have:=fi_ (k:=4) hq;rw [h] at this;cases this) (.inl (hG.wg.notFree hst (by omega)))
   ·rcases i with _ | i
    ·simp at he;subst he;exact absurd rfl ht
    ·simp at he
   ·rw [Deaf_own,hd];rfl
  ·-- it says that it's through
   obtain ⟨hr,g',q,hstep,hq⟩:=(show ZR P L.tWg X.wg g w from hz)
   obtain ⟨_,hkh,hd⟩ | ⟨h5,_⟩:=hkn
   ·have hes:∀ e∈#[mk (.releaseMerge (stA X.wg))],EvShy X.wg e:=fun e he=>by simp at he;subst he;exact .inl ⟨_,rfl,rfl,fun a h=>by cases h⟩
    have e0:(t++MemOp.ofEvents (nb+j+1) g.frame.fn g.frame.place #[mk (.releaseMerge (stA X.wg))])[t.size]?=some { g:=nb+j+1,fn:=g.frame.fn,pos:=g.frame.place,act:=.mark (.releaseMerge (stA X.wg)) }:=by
     rw [ofEvents_eq,Array.getElem?_append_right (Nat.le_refl _)];simp [mk];rfl
    have hkb:∀ i,Knows t (nb+j+1) i→Before (t++MemOp.ofEvents (nb+j+1) g.frame.fn g.frame.place #[mk (.releaseMerge (stA X.wg))]) i t.size:=fun i hi=>.inr (hi.hb_new (Nat.le_refl _) e0 rfl)
    refine key (k':=5) (m':=q) hstep hes (by omega) Side.refl (fun b hb=>rfl) rfl (hG.wg.far hst (by omega) (by omega) fun _ _ h=>h) hq
     (.inr ⟨by omega,⟨t.size,⟨act?_of e0,g?_of e0,_,g?_of e0,by rw [deaf_old (Nat.le_refl _)];exact hd⟩,bfd hkh hkb (bpf hes) hnw,fun i hi hc=>?_⟩,fun _=>?_,fun h=>by omega⟩)
     (fun h=>by have:=fi_ (k:=5) hq;rw [h] at this;cases this) (.inl (hG.wg.notFree hst (by omega)))
    ·rcases Nat.lt_or_ge i t.size with hlt | hge
     ·rw [g?_app hlt] at hi
      obtain ⟨op,ho,hog⟩:=Option.map_eq_some_iff.1 (show (t[i]?).map (·.g)=some (nb+j+1) from hi)
      exact hkb i (by have:=knows_own ho;rwa [hog] at this)
     ·have:=g?_lt hi
      rw [ofEvents_eq] at this
      simp at this
      exact .inl (by omega)
    ·rw [Deaf_own,hd];rfl
   ·omega
  ·exact hz.elim
 ·refine key (k':=k+1) (m':=m') hstep (fun e he=>by simp at he) (by omega) Side.refl (fun b hb=>rfl) rfl (hG.wg.same hst fun _ _ h=>h) hz' ?_ (fun h=>by have:=fi_ hz';rw [h] at this;cases this) (.inl (hG.wg.notFree hst (by omega)))
  rw [ofEvents_none,Array.append_empty]
  exact hkn
end
end Go.PB
