/-
  Part 4 of 9.
-/
import Derived.Test.YtnnpdmhmpgmpnaaGp3
import Derived.Test.YtnnpdmhmpgmpnaaGp2
set_option linter.unusedVariables false
set_option linter.unusedSimpArgs false
namespace Go.PB
theorem bcj {α β γ:Type} {f:α→β→γ} {b:β}:∀ {k:Nat} {xs:List α} {ys:List β} {a:α},xs[k]?=some a→List.zipWith f xs (ys.set k b)=(List.zipWith f xs ys).set k (f a b)
 | _,[],_,_,h=>by simp at h
 | _,x::xs,[],_,_=>rfl
 | 0,x::xs,y::ys,a,h=>by simp at h;subst h;rfl
 | k+1,x::xs,y::ys,a,h=>by simp only [List.set_cons_succ,List.zipWith_cons_cons];rw [bcj (by simpa using h)]
theorem gf_ {α:Type} {l:List α} {k:Nat} {a:α} (h:l[k]?=some a):l.set k a=l:=by
 obtain ⟨h1,h2⟩:=List.getElem?_eq_some_iff.1 h
 subst h2
 exact List.set_getElem_self h1
end Go.PB
namespace Go.Proofs.Ytnnpdmhmpgmpnaa
open Go Go.PB
attribute [local irreducible] Mo Bin Eql Tr Wo Ap Wle
structure PS (g:Game) where
 s:g.σ
 qs:List g.θ
 tr:List (Nat × (Int × Int))
def takeF {g:Game} (p:PS g) (k:Int):PS g × Bool :=
 if k<0 then (p,false) else
 match p.qs[k.toNat]? with
 | none=>(p,false)
 | some q=>match g.plan q with
  | none=>(p,false)
  | some (m,f)=>if p.tr.length=16384 then (p,false) else (⟨(f p.s).1,p.qs.set k.toNat (f p.s).2,p.tr++[(k.toNat,m)]⟩,true)
structure SId where
 sb:Nat
 says:Nat
 turn:Nat
 fin:Nat
def trCP (tr:List (Nat × (Int × Int))):List Value:=(tr.map fun t=>[.int .i64 (t.1:Nat),.int .u8 t.2.1,.int .i64 t.2.2]).flatten
theorem sq_ {tr:List (Nat × (Int × Int))}:(trCP tr).length=tr.length*3:=gy_ (f:=fun t:Nat × (Int × Int)=>[Value.int .i64 (t.1:Nat),.int .u8 t.2.1,.int .i64 t.2.2]) (k:=3) (fun _=>rfl) tr
theorem bzm {tr:List (Nat × (Int × Int))} {k:Nat} {m:Int × Int}:trCP (tr++[(k,m)])=trCP tr++[.int .i64 (k:Nat),.int .u8 m.1,.int .i64 m.2]:=by simp [trCP]
def ptrs (ids:List SId):List Value:=ids.map fun i=>.pointer (some ⟨i.sb,0,none⟩)
abbrev lastQ (g:Game) (q:g.θ):List Value:=lastC ((g.plan q).map (·.1))
def seatC (g:Game) (i:SId) (q:g.θ):HProp:=all [seatR i.sb i.says i.turn i.fin,arr i.sb 3 (lastQ g q)]
def fg_ (g:Game) (ids:List SId) (qs:List g.θ):List HProp:=List.zipWith (seatC g) ids qs
def seatS {g:Game} (i:SId) (q:g.θ):Seat g.σ g.θ:=⟨i.says,i.turn,i.fin,.said q⟩
def fy_ {g:Game} (ids:List SId) (qs:List g.θ):List (Seat g.σ g.θ):=List.zipWith seatS ids qs
section
variable {g:Game} {wg pb:Nat} {ss ts cs:Value} {ids:List SId} {p:PS g} {F:List HProp}
abbrev playL (g:Game) (pb:Nat) (ss ts cs:Value) (ids:List SId) (p:PS g) (F:List HProp):List HProp :=
 g.U p.s::arr pb 0 [ss,ts,cs]::vec 1 ss (ptrs ids)::vec 3 ts (trCP p.tr)::all (fg_ g ids p.qs)::F
abbrev playX (g:Game) (wg:Nat) (ids:List SId) (p:PS g):MX:=gx g wg (fy_ ids p.qs) (some p.s) (16384-p.tr.length) ids.length
theorem zs_ (k:Int):(takeF p k).1.qs.length=p.qs.length:=by
 unfold takeF
 split
 ·rfl
 split
 ·rfl
 split
 ·rfl
 split
 ·rfl
 ·simp
theorem bgq (h:p.tr.length≤16384) (k:Int):(takeF p k).1.tr.length≤16384:=by
 unfold takeF
 split
 ·exact h
 split
 ·exact h
 split
 ·exact h
 split
 ·exact h
 ·simp;omega
theorem bgp {k:Int} (hl:ids.length=p.qs.length) (hk:k<0∨(ids.length:Int)≤k) :
  Tr Try.prog mT 61 [.pointer (some ⟨pb,0,none⟩),.int .i64 k] (playL g pb ss ts cs ids p F) (playX g wg ids p) fun v L' x'=>v=.bool false∧L'=playL g pb ss ts cs ids p F∧x'=playX g wg ids p:=by
 refine fm_ (bp_ (.there (.there .here)) (bg_ (by omega))) ?_
 rintro ⟨a,n,c,rfl,hn,_⟩
 have hn:n=ids.length:=by simp [ptrs] at hn;omega
 subst hn
 by_cases h0:k<0
 ·refine bd_ Try.func61 rfl Try.ntmps61 (by simp) fun um Q _ hQ=>?_
  simp only [argE,Nat.zero_add,Nat.reduceAdd]
  repeat (first | refine wlssT ?_ | refine bb_ ?_ | (refine wR ?_;try simp only [oS]) | refine ba_ ?_ | refine wM ?_ | refine wA ?_ | (apply wo_no;exact rfl) | refine wK ?_ | refine wT ?_ | refine bn_ ?_)
  (first | refine or1 Try.func61 Try.results61 hQ rfl ?_ | refine on1 Try.func61 Try.results61 hQ rfl ?_)
  exact ⟨rfl,rfl,rfl⟩
 ·refine bd_ Try.func61 rfl Try.ntmps61 (by simp) fun um Q _ hQ=>?_
  simp only [argE,Nat.zero_add,Nat.reduceAdd]
  repeat (first | refine wlssF ?_ | refine wgeqT ?_ | refine bb_ ?_ | (refine wR ?_;try simp only [oS]) | refine ba_ ?_ | refine wM ?_ | refine wA ?_ | (apply wo_no;exact rfl) | refine wK ?_ | refine wJ ?_ | refine wN ?_ | refine wD ?_ | refine wL ?_ | refine wE ?_ | refine wT ?_ | refine bn_ ?_)
  (first | refine or1 Try.func61 Try.results61 hQ rfl ?_ | refine on1 Try.func61 Try.results61 hQ rfl ?_)
  exact ⟨rfl,rfl,rfl⟩
theorem vf_ {k:Nat} {i:SId} {q:g.θ} {L:List HProp} {h:Hp} (hi:ids[k]?=some i) (hq:p.qs[k]?=some q) (st:Star (all (fg_ g ids p.qs)::L) h) :
  Star (seatR i.sb i.says i.turn i.fin::arr i.sb 3 (lastQ g q)::all ((fg_ g ids p.qs).eraseIdx k)::L) h:=by
 have e:(fg_ g ids p.qs)[k]?=some (seatC g i q):=by simp [fg_,List.getElem?_zipWith,hi,hq]
 exact ci_ (M:=[_,_]) (star_pick e st)
theorem xq_ {k:Nat} {i:SId} {q q':g.θ} {L:List HProp} {h:Hp} (hi:ids[k]?=some i) (hq:p.qs[k]?=some q) (st:Star (seatR i.sb i.says i.turn i.fin::arr i.sb 3 (lastQ g q')::all ((fg_ g ids p.qs).eraseIdx k)::L) h) :
  Star (all (fg_ g ids (p.qs.set k q'))::L) h:=by
 have hlt:k<(fg_ g ids p.qs).length:=by
  have h1:=(List.getElem?_eq_some_iff.1 hi).1
  have h2:=(List.getElem?_eq_some_iff.1 hq).1
  simp [fg_];omega
 have e:fg_ g ids (p.qs.set k q')=(fg_ g ids p.qs).set k (seatC g i q'):=bcj hi
 rw [e]
 exact hh_ hlt (bv_ (M:=[_,_]) st)
theorem bqr {k:Nat} {i:SId} {q:g.θ} (hi:ids[k]?=some i) (hq:p.qs[k]?=some q) (hno:g.plan q=none∨p.tr.length=16384) :
  Tr Try.prog mT 61 [.pointer (some ⟨pb,0,none⟩),.int .i64 (k:Nat)] (playL g pb ss ts cs ids p F) (playX g wg ids p) fun v L' x'=>v=.bool false∧L'=playL g pb ss ts cs ids p F∧x'=playX g wg ids p:=by
 have hk:=(List.getElem?_eq_some_iff.1 hi).1
 refine fm_ (bp_ (.there (.there .here)) (bg_ (by omega))) ?_
 rintro ⟨a,n,c,rfl,hn,_,hnz,hy⟩
 have hn:n=ids.length:=by simp [ptrs] at hn;omega
 subst hn
 refine fm_ (bp_ (.there (.there (.there .here))) (bg_ (by omega))) ?_
 rintro ⟨ta,tn,tc,rfl,htn,_⟩
 have htn:tn=p.tr.length:=by rw [sq_] at htn;omega
 subst htn
 cases a with
 | none=>have:=hnz rfl;omega
 | some ad =>
 obtain ⟨b,o,sp⟩:=ad
 have:=hy _ rfl
 simp only [Addr.mk.injEq,true_and] at this
 subst this
 refine Tr.post (R:=fun v L' x'=>v=.bool false∧x'=playX g wg ids p∧∀ h,Star L' h→Star (playL g pb (.slice (some ⟨b,o,none⟩) ids.length c) (.slice ta p.tr.length tc) cs ids p F) h) ?_
  (by rintro v L' x' ⟨rfl,rfl,h2⟩;exact ⟨_,⟨rfl,rfl,rfl⟩,h2⟩)
 let L1:List HProp:=seatR i.sb i.says i.turn i.fin::arr i.sb 3 (lastQ g q)::all ((fg_ g ids p.qs).eraseIdx k)::g.U p.s::arr pb 0 [.slice (some ⟨b,o,none⟩) ids.length c,.slice ta p.tr.length tc,cs]::vec 1 (.slice (some ⟨b,o,none⟩) ids.length c) (ptrs ids)::vec 3 (.slice ta p.tr.length tc) (trCP p.tr)::F
 refine dw_ L1 (fun h st=>vf_ hi hq (((.there (.there (.there (.there .here)))):Has (playL g pb _ _ cs ids p F) _ _).star st)) ?_
 have hback:∀ h,Star L1 h→Star (playL g pb (.slice (some ⟨b,o,none⟩) ids.length c) (.slice ta p.tr.length tc) cs ids p F) h:=fun h st=>by
  have s1:=xq_ (q':=q) hi hq st
  have e:p.qs.set k q=p.qs:=gf_ hq
  rw [e] at s1
  exact Ent.star (.take (.there .here) (.take (.there .here) (.take (.there .here) (.take (.there .here) (.take .here .refl))))) s1
 have rs:Rd L1 b (o+k) (.pointer (some ⟨i.sb,0,none⟩)):=df_ (cs:=ptrs ids) (.there (.there (.there (.there (.there .here))))) (by simp [ptrs,hi])
 have hlast:∃ m1 m2 q3,lastQ g q=[.int .u8 m1,.int .i64 m2,.bool q3]∧(q3=true∨(q3=false∧p.tr.length=16384)):=by
  unfold lastQ
  cases hp:g.plan q with
  | none=>exact ⟨_,_,_,rfl,.inl rfl⟩
  | some mf =>
   refine ⟨_,_,_,rfl,.inr ⟨rfl,hno.resolve_left (by rw [hp];simp)⟩⟩
 obtain ⟨m1,m2,q3,hl,hq3⟩:=hlast
 have rl:Rd L1 i.sb 5 (.bool q3):=Rd.of (.there .here) (by rw [hl];exact Rd.row (k:=2) rfl rfl)
 rcases hq3 with rfl | ⟨rfl,htr⟩
 ·refine bd_ Try.func61 rfl Try.ntmps61 (by simp) fun um Q _ hQ=>?_
  simp only [argE,Nat.zero_add,Nat.reduceAdd]
  repeat (first | (apply wo_po;apply cm_;exact rfl;exact rfl;omega;exact gY) | (apply wo_po;apply bc_;exact rfl;(first | exact rs | exact rl | exact Rd.of (.there (.there (.there (.there .here)))) (Rd.row0 rfl));exact gY) | refine wlssF ?_ | refine wgeqF ?_ | refine bb_ ?_ | (refine wR ?_;try simp only [oS]) | refine ba_ ?_ | refine wM ?_ | refine wA ?_ | (apply wo_no;exact rfl) | refine wK ?_ | refine wJ ?_ | refine wN ?_ | refine wD ?_ | refine wE ?_ | refine wT ?_ | refine bn_ ?_)
  (first | refine or1 Try.func61 Try.results61 hQ rfl ?_ | refine on1 Try.func61 Try.results61 hQ rfl ?_)
  exact ⟨rfl,rfl,hback⟩
 ·refine bd_ Try.func61 rfl Try.ntmps61 (by simp) fun um Q _ hQ=>?_
  simp only [argE,Nat.zero_add,Nat.reduceAdd]
  repeat (first | (apply wo_po;apply cm_;exact rfl;exact rfl;omega;exact gY) | (apply wo_po;apply bc_;exact rfl;(first | exact rs | exact rl | exact Rd.of (.there (.there (.there (.there .here)))) (Rd.row0 rfl));exact gY) | refine wlssF ?_ | refine wgeqF ?_ | refine weqlT ?_ | refine bb_ ?_ | (refine wR ?_;try simp only [oS]) | refine ba_ ?_ | refine wM ?_ | refine wA ?_ | refine wJ ?_ | refine wN ?_ | refine wD ?_ | refine wE ?_ | refine wT ?_ | refine bn_ ?_)
  (first | refine or1 Try.func61 Try.results61 hQ rfl ?_ | refine on1 Try.func61 Try.results61 hQ rfl ?_)
  exact ⟨rfl,rfl,hback⟩
theorem bzs {k:Nat} {i:SId} {q:g.θ} {m:Int × Int} {f:g.σ→g.σ × g.θ} (hl:ids.length=p.qs.length) (hi:ids[k]?=some i) (hq:p.qs[k]?=some q) (hpl:g.plan q=some (m,f)) (htr:p.tr.length<16384) (hok:g.ok p.s) :
  Tr Try.prog mT 61 [.pointer (some ⟨pb,0,none⟩),.int .i64 (k:Nat)] (playL g pb ss ts cs ids p F) (playX g wg ids p) fun v L' x'=>∃ ts',v=.bool true∧L'=playL g pb ss ts' cs ids ⟨(f p.s).1,p.qs.set k (f p.s).2,p.tr++[(k,m)]⟩ F∧x'=playX g wg ids ⟨(f p.s).1,p.qs.set k (f p.s).2,p.tr++[(k,m)]⟩:=by
 have hk:=(List.getElem?_eq_some_iff.1 hi).1
 refine fm_ (bp_ (.there (.there .here)) (bg_ (by omega))) ?_
 rintro ⟨a,n,c,rfl,hn,_,hnz,hy⟩
 have hn:n=ids.length:=by simp [ptrs] at hn;omega
 subst hn
 refine fm_ (bp_ (.there (.there (.there .here))) (bg_ (by omega))) ?_
 rintro ⟨ta,tn,tc,rfl,htn,_⟩
 have htn:tn=p.tr.length:=by rw [sq_] at htn;omega
 subst htn
 cases a with
 | none=>have:=hnz rfl;omega
 | some ad =>
 obtain ⟨b,o,sp⟩:=ad
 have:=hy _ rfl
 simp only [Addr.mk.injEq,true_and] at this
 subst this
 refine Tr.post (R:=fun v L' x'=>∃ ts',v=.bool true∧x'=playX g wg ids ⟨(f p.s).1,p.qs.set k (f p.s).2,p.tr++[(k,m)]⟩∧∀ h,Star L' h→Star (playL g pb (.slice (some ⟨b,o,none⟩) ids.length c) ts' cs ids ⟨(f p.s).1,p.qs.set k (f p.s).2,p.tr++[(k,m)]⟩ F) h) ?_
  (by rintro v L' x' ⟨ts',rfl,rfl,h2⟩;exact ⟨_,⟨ts',rfl,rfl,rfl⟩,h2⟩)
 have hlq:lastQ g q=[.int .u8 m.1,.int .i64 m.2,.bool false]:=by unfold lastQ;rw [hpl];rfl
 let er:=all ((fg_ g ids p.qs).eraseIdx k)
 let L1:List HProp:=seatR i.sb i.says i.turn i.fin::arr i.sb 3 [.int .u8 m.1,.int .i64 m.2,.bool false]::arr pb 0 [.slice (some ⟨b,o,none⟩) ids.length c,.slice ta p.tr.length tc,cs]::vec 3 (.slice ta p.tr.length tc) (trCP p.tr)::vec 1 (.slice (some ⟨b,o,none⟩) ids.length c) (ptrs ids)::g.U p.s::er::F
 refine dw_ L1 (fun h st=>by have:=vf_ hi hq (((.there (.there (.there (.there .here)))):Has (playL g pb _ _ cs ids p F) _ _).star st);rw [hlq] at this;exact Ent.star (.take .here (.take .here (.take (.there (.there .here)) (.take (.there (.there (.there .here))) (.take (.there (.there .here)) (.take (.there .here) (.take .here .refl))))))) this) ?_
 have rs:Rd L1 b (o+k) (.pointer (some ⟨i.sb,0,none⟩)):=df_ (cs:=ptrs ids) (.there (.there (.there (.there .here)))) (by simp [ptrs,hi])
 have rl:Rd L1 i.sb 5 (.bool false):=.there (Rd.row (k:=2) rfl rfl)
 have rt:Rd L1 i.sb 0 (.chan (some i.turn)):=Rd.fro (k:=0) rfl rfl
 have hsz:(fy_ ids p.qs).length=ids.length:=by simp [fy_];omega
 have hsk:(fy_ ids p.qs)[k]?=some (⟨i.says,i.turn,i.fin,.said q⟩:Seat g.σ g.θ):=by simp [fy_,List.getElem?_zipWith,hi,hq,seatS]
 refine bd_ Try.func61 rfl Try.ntmps61 (by simp) fun um Q _ hQ=>?_
 simp only [argE,Nat.zero_add,Nat.reduceAdd]
 repeat (first | (apply wo_po;apply cm_;exact rfl;exact rfl;omega;exact gY) | (apply wo_po;apply bc_;exact rfl;(first | exact rs | exact rl | exact Rd.of (.there (.there .here)) (Rd.row0 rfl));exact gY) | refine wlssF ?_ | refine wgeqF ?_ | refine weqlF ?_ | refine bb_ ?_ | (refine wR ?_;try simp only [oS]) | refine ba_ ?_ | refine wM ?_ | refine wA ?_ | refine wJ ?_ | refine wN ?_ | refine wD ?_ | refine wE ?_ | refine wF ?_ | refine bk_ ?_)
 refine br_ (List.range' 0 19) (by kernel_rfl) ?_
 repeat (first | (apply bj_;exact rfl;exact rfl;exact trivial;apply bc_;exact rfl;exact Rd.of (.there (.there .here)) (Rd.row0 rfl)) | (apply bj_;exact rfl;exact rfl;exact trivial;apply cc_ (vs:=[.int .u8 m.1,.int .i64 m.2]);exact rfl;exact rfl;exact Rds.row (k:=0) (.there .here) (by intro i v hv;match i,hv with | 0,hv=>exact hv | 1,hv=>exact hv)) | (apply be_;exact rfl;exact rfl;exact trivial;intro L;apply dq_ (pv:=[(0,_),(1,_)]);exact rfl;exact .cons rfl (.cons rfl .nil);exact rfl) | refine aM ?_ | refine aN ?_ | refine aD ?_)
 have hone:∀ v∈[Value.int .i64 (k:Nat),.int .u8 m.1,.int .i64 m.2],one v=true:=by intro v hv;simp at hv;rcases hv with rfl | rfl | rfl <;> rfl
 refine fx_ rfl rfl rfl rfl trivial (bi_ (sz:=3) (vs:=[.agg #[.int .i64 (k:Nat),.int .u8 m.1,.int .i64 m.2]]) rfl (.cons rfl .nil) rfl (by intro v hv;cases (List.mem_singleton.1 hv);exact rfl) (by omega)) ?_ ?_
 ·rintro v L ⟨nb,rfl,rfl⟩ p hp
  replace hp:=(List.mem_filter.1 hp).1
  simp only [List.mem_cons,List.not_mem_nil,or_false] at hp
  rcases hp with rfl | rfl | rfl | rfl | rfl | rfl | rfl | rfl | rfl | rfl | rfl | rfl | rfl <;> first | exact .inl rfl | exact .inr ⟨_,rfl,trivial,bc_ rfl (Rd.of (.there (.there (.there .here))) (Rd.row0 rfl))⟩ | exact .inr ⟨_,rfl,trivial,cc_ rfl rfl (Rds.row (k:=0) (.there (.there .here)) (by intro i v hv;match i,hv with | 0,hv=>exact hv | 1,hv=>exact hv))⟩
 rintro v' L' ⟨nb,rfl,rfl⟩
 refine cg_ rfl rfl rfl rfl rfl trivial (cf_ (sz:=3) (new:=[.int .i64 (k:Nat),.int .u8 m.1,.int .i64 m.2]) rfl rfl rfl rfl (.there (.there (.there (.there .here)))) rfl (.inr ⟨_,_,rfl,Rds.all .here⟩) hone (by simp only [cj_];omega)) ?_
 rintro v' L' rfl
 refine gv_ (bp_ .here (bg_ (by omega))) ?_
 rintro ⟨ua,un,uc,rfl,_⟩
 repeat (first | refine aN ?_ | refine aD ?_)
 refine cg_ rfl rfl rfl rfl rfl trivial (cq_ rfl rfl rfl (Wt.row0 (k:=1) (.there (.there (.there (.there .here)))) (Nat.lt_of_sub_eq_succ rfl))) ?_
 rintro v' L' ⟨rfl,rfl⟩
 refine bz_ ?_
 have rt2:∀ {A C D:HProp} {M:List HProp},Rd (A::C::seatR i.sb i.says i.turn i.fin::D::M) i.sb 0 (.chan (some i.turn)):=.there (.there (Rd.fro (k:=0) rfl rfl))
 repeat (first | (apply wo_po;apply bc_;exact rfl;exact rt2;exact gY) | (apply wo_po;apply dq_ (pv:=[]);exact rfl;exact .nil;exact rfl;exact trivial) | refine bb_ ?_ | (refine wR ?_;try simp only [oS]) | refine wM ?_ | refine wN ?_ | refine wD ?_)
 refine cfm (X:=⟨g,wg,fy_ ids p.qs,some p.s,16384-p.tr.length,ids.length,false,.play⟩) (j:=k) (lf:=16384-(p.tr.length+1)) (c:=⟨i.says,i.turn,i.fin,.said q⟩) (s:=p.s) (q:=q) rfl rfl rfl rfl hsk rfl hpl rfl (by show 16384-p.tr.length=_;omega) (by show ids.length=_;rw [hsz]) hok (.there (.there (.there (.there (.there (.there .here)))))) trivial ?_
 have rs2:∀ {A C D:HProp} {M:List HProp},Rd (A::C::seatR i.sb i.says i.turn i.fin::D::M) i.sb 2 (.chan (some i.says)):=.there (.there (Rd.fro (k:=2) rfl rfl))
 repeat (first | (apply wo_po;apply bc_;exact rfl;exact rs2;exact gY) | refine bb_ ?_ | (refine wR ?_;try simp only [oS]) | refine ba_ ?_ | refine wM ?_ | refine wN ?_ | refine wD ?_)
 refine cft (X:=⟨g,wg,(fy_ ids p.qs).set k ⟨i.says,i.turn,i.fin,.run (f p.s).1 (f p.s).2⟩,none,16384-(p.tr.length+1),ids.length,false,.play⟩) (j:=k) (c:=⟨i.says,i.turn,i.fin,.run (f p.s).1 (f p.s).2⟩) (s:=(f p.s).1) (q:=(f p.s).2) rfl rfl rfl (List.getElem?_set_self (by rw [hsz];exact hk)) rfl rfl trivial ?_
 have hc:=ym_ (g:=g) (q:=(f p.s).2)
 have hov:over [.int .u8 m.1,.int .i64 m.2,.bool false] 0 (g.says (f p.s).2).cells.toList=lastQ g (f p.s).2:=by
  rw [hc];unfold over;simp [qe_]
 repeat (first | refine wN ?_ | refine wD ?_)
 apply wo_pm
 exact bw_ (n:=3) (c:=3) (k:=0) (a:=3) (vs:=[.int .u8 m.1,.int .i64 m.2,.bool false]) rfl rfl (by rw [← Array.length_toList,hc];exact qe_) (by rw [hc];exact bbt) rfl (Nat.le_refl 3) (.there (.there (.there (.there .here))))
 exact trivial
 rw [hov]
 have hset:((fy_ ids p.qs).set k ⟨i.says,i.turn,i.fin,.run (f p.s).1 (f p.s).2⟩).set k ⟨i.says,i.turn,i.fin,.said (f p.s).2⟩=fy_ ids (p.qs.set k (f p.s).2):=by
  rw [List.set_set];exact (bcj (f:=seatS) hi).symm
 repeat (first | refine bb_ ?_ | (refine wR ?_;try simp only [oS]) | refine ba_ ?_ | refine wA ?_ | refine bn_ ?_)
 (first | refine or1 Try.func61 Try.results61 hQ rfl ?_ | refine on1 Try.func61 Try.results61 hQ rfl ?_)
 refine ⟨.slice ua un uc,rfl,?_,fun h st=>?_⟩
 ·show gx g wg (((fy_ ids p.qs).set k ⟨i.says,i.turn,i.fin,.run (f p.s).1 (f p.s).2⟩).set k ⟨i.says,i.turn,i.fin,.said (f p.s).2⟩) _ _ _=gx g wg _ _ _ _
  rw [hset]
  simp
 ·have st1:Star (seatR i.sb i.says i.turn i.fin::arr i.sb 3 (lastQ g (f p.s).2)::er::g.U (f p.s).1::arr pb 0 [.slice (some ⟨b,o,none⟩) ids.length c,.slice ua un uc,cs]::vec 1 (.slice (some ⟨b,o,none⟩) ids.length c) (ptrs ids)::vec 3 (.slice ua un uc) (trCP p.tr++[.int .i64 (k:Nat),.int .u8 m.1,.int .i64 m.2])::F) h:=Ent.star (.take (.there (.there (.there .here))) (.take (.there (.there (.there .here))) (.take (.there (.there (.there (.there (.there .here))))) (.take .here (.take (.there (.there .here)) (.take (.there (.there .here)) (.take .here (.drop .refl)))))))) st
  rw [← bzm] at st1
  have s1:=xq_ hi hq st1
  exact Ent.star (.take (.there .here) (.take (.there .here) (.take (.there .here) (.take (.there .here) (.take .here .refl))))) s1
theorem bgn {k:Int} (hl:ids.length=p.qs.length) (hle:p.tr.length≤16384) (hok:p.tr.length<16384→g.ok p.s) :
  Tr Try.prog mT 61 [.pointer (some ⟨pb,0,none⟩),.int .i64 k] (playL g pb ss ts cs ids p F) (playX g wg ids p) fun v L' x'=>∃ ts',v=.bool (takeF p k).2∧L'=playL g pb ss ts' cs ids (takeF p k).1 F∧x'=playX g wg ids (takeF p k).1:=by
 by_cases h0:k<0
 ·rw [show takeF p k=(p,false) by unfold takeF;rw [if_pos h0]]
  exact (bgp hl (.inl h0)).mono fun v L' x' h=>⟨ts,h⟩
 obtain ⟨n,rfl⟩:∃ n:Nat,k=n:=⟨k.toNat,by omega⟩
 cases hq:p.qs[n]? with
 | none =>
  have:=List.getElem?_eq_none_iff.1 hq
  rw [show takeF p (n:Int)=(p,false) by unfold takeF;rw [if_neg h0,Int.toNat_natCast,hq]]
  exact (bgp hl (.inr (by omega))).mono fun v L' x' h=>⟨ts,h⟩
 | some q =>
  have hn:=(List.getElem?_eq_some_iff.1 hq).1
  have hi:ids[n]?=some (ids[n]'(by omega)):=List.getElem?_eq_getElem _
  cases hpl:g.plan q with
  | none =>
   rw [show takeF p (n:Int)=(p,false) by unfold takeF;rw [if_neg h0,Int.toNat_natCast,hq];simp only [hpl]]
   exact (bqr hi hq (.inl hpl)).mono fun v L' x' h=>⟨ts,h⟩
  | some mf =>
   obtain ⟨m,f⟩:=mf
   by_cases htr:p.tr.length=16384
   ·rw [show takeF p (n:Int)=(p,false) by unfold takeF;rw [if_neg h0,Int.toNat_natCast,hq];simp only [hpl,if_pos htr]]
    exact (bqr hi hq (.inr htr)).mono fun v L' x' h=>⟨ts,h⟩
   ·rw [show takeF p (n:Int)=(⟨(f p.s).1,p.qs.set n (f p.s).2,p.tr++[(n,m)]⟩,true) by unfold takeF;rw [if_neg h0,Int.toNat_natCast,hq];simp only [hpl,if_neg htr]]
    exact (bzs hl hi hq hpl (by omega) (hok (by omega))).mono fun v L' x' h=>h
end
end Go.Proofs.Ytnnpdmhmpgmpnaa
namespace Go.PB
section
variable {P:Program} {B:Hand} {kd:CallKind} {n:Nat} {ops:Array Oper} {ord R:List Nat} {Pd:List Pn} {K:Post B} {e:Env} {z:Z} {L:List HProp} {x:B.X}
theorem bkp {i f:Nat} {ord' R' pre idx:List Nat} {t:Array Value} {h:Hp} (hf:R.contains f=true) (hR:R.erase f=R') (hord:ord'=(ord.takeWhile fun q=>!(q == i))++f::i::R') (hok:okOrd n ops ord'=true)
  (b:Ap1 P B kd n ops ord' f (i::R') Pd K e z L x) (hpre:ord=pre++i::R) (hin:∀ p∈Pd,p.i∈pre) (ok:OkO n ops ord) (hpd:∀ p∈Pd,PdOk P n ops L p) (I:InvA n ops (i::R) Pd e (f::idx) t) (s:Star L h):Wr P B kd ops (f::idx) K t z h x:=by
 subst hR
 have hfR:f∈R:=by simpa using hf
 have hnd:(pre++i::R).Nodup:=hpre▸ok.nd
 have htw:ord.takeWhile (fun q=>!(q == i))=pre:=by rw [hpre];exact jj_ hnd
 have hnd2:=List.nodup_cons.1 (List.nodup_append.1 hnd).2.1
 have hmem:∀ y,(y∈f::i::R.erase f)↔y∈i::R:=by
  intro y
  simp only [List.mem_cons,hnd2.2.mem_erase_iff]
  constructor
  ·rintro (rfl | rfl | ⟨_,h⟩)
   ·exact .inr hfR
   ·exact .inl rfl
   ·exact .inr h
  ·rintro (rfl | h)
   ·exact .inr (.inl rfl)
   ·by_cases e:y=f
    ·exact .inl e
    ·exact .inr (.inr ⟨e,h⟩)
 refine b ⟨pre,by rw [hord,htw],hin⟩ (yd_ hok) hpd idx t h ⟨I.sz,I.nd,I.lt,fun q hq=>?_,fun q hq=>I.all q ((hmem q).1 hq),fun p hp hh=>I.dj p hp ((hmem _).1 hh),I.pu,I.resp,I.dn,I.envok,I.pok⟩ s
 rcases I.sub q hq with h1 | h1
 ·exact .inl ((hmem q).2 h1)
 ·exact .inr h1
theorem cfb [Lets B] {i f g:Nat} {ordf ordg Rf Rg:List Nat} (hdom:(R.all fun j=>j == f||j == g||(anc ops ops.size j).contains i)=true) (hf:R.contains f=true) (hRf:R.erase f=Rf) (hordf:ordf=(ord.takeWhile fun q=>!(q == i))++f::i::Rf) (hokf:okOrd n ops ordf=true)
  (hg:R.contains g=true) (hRg:R.erase g=Rg) (hordg:ordg=(ord.takeWhile fun q=>!(q == i))++g::i::Rg) (hokg:okOrd n ops ordg=true)
  (a:Ap1 P B kd n ops ord i R Pd K e z L x) (b:Ap1 P B kd n ops ordf f (i::Rf) Pd K e z L x) (c:Ap1 P B kd n ops ordg g (i::Rg) Pd K e z L x):Ap P B kd n ops ord (i::R) Pd K e z L x:=by
 rintro ⟨pre,hpre,hin⟩ ok hpd
 refine bfk ok hpd (fun t h I s=>?_) (fun j idx t h hj I s=>?_)
 ·have:=I.all i (by simp);simp at this
 ·by_cases hji:j=i
  ·subst hji
   exact a ⟨pre,hpre,hin⟩ ok hpd idx t h I s
  ·have hjf:j=f∨j=g:=by
    rcases List.mem_cons.1 hj with h1 | h1
    ·exact absurd h1 hji
    ·have:=(List.all_eq_true.1 hdom) j h1
     simp only [Bool.or_eq_true,beq_iff_eq,List.contains_eq_mem,decide_eq_true_eq] at this
     rcases this with h2 | h2
     ·exact h2
     ·exact absurd (I.all i (by simp)) (I.first ok h2)
   rcases hjf with rfl | rfl
   ·exact bkp hf hRf hordf hokf b hpre hin ok hpd I s
   ·exact bkp hg hRg hordg hokg c hpre hin ok hpd I s
theorem za_ [Lets B] {i f:Nat} {ordf Rf:List Nat} (hdom:(R.all fun j=>j == f||(anc ops ops.size j).contains i)=true) (hf:R.contains f=true) (hRf:R.erase f=Rf) (hordf:ordf=(ord.takeWhile fun q=>!(q == i))++f::i::Rf) (hokf:okOrd n ops ordf=true)
  (a:Ap1 P B kd n ops ord i R Pd K e z L x) (b:Ap1 P B kd n ops ordf f (i::Rf) Pd K e z L x):Ap P B kd n ops ord (i::R) Pd K e z L x:=by
 subst hRf;exact bfm hdom hf hordf hokf a b
end
end Go.PB
namespace Go.Proofs.Ytnnpdmhmpgmpnaa
open Go Go.PB
attribute [local irreducible] Mo Bin Eql Tr Wo Ap Wle
section
variable {B:Hand} [Lets B] {L:List HProp} {x:B.X}
def isFn (v:Value):Prop:=∃ f u w,v=.func f u w
theorem bkv:Tr Try.prog B 77 [.nilFunc] L x fun v L' x'=>v=.bool true∧L'=L∧x'=x:=by
 refine bd_ Try.func77 rfl Try.ntmps77 (by simp) fun um Q _ hQ=>?_
 simp only [argE,Nat.zero_add,Nat.reduceAdd]
 repeat (first | (apply wo_po;apply bu_;exact rfl;exact rfl;apply si_;apply wi_;exact trivial) | refine bb_ ?_ | (refine wR ?_;try simp only [oS]) | refine ba_ ?_ | refine wM ?_ | refine wA ?_ | refine bn_ ?_)
 (first | refine or1 Try.func77 Try.results77 hQ rfl ?_ | refine on1 Try.func77 Try.results77 hQ rfl ?_)
 exact ⟨rfl,rfl,rfl⟩
theorem bsk {v:Value} (hv:isFn v):Tr Try.prog B 77 [v] L x fun v L' x'=>v=.bool false∧L'=L∧x'=x:=by
 obtain ⟨f,u,w,rfl⟩:=hv
 refine bd_ Try.func77 rfl Try.ntmps77 (by simp) fun um Q _ hQ=>?_
 simp only [argE,Nat.zero_add,Nat.reduceAdd]
 repeat (first | (apply wo_po;apply bu_;exact rfl;exact rfl;apply si_;apply bdt;exact trivial) | refine bb_ ?_ | (refine wR ?_;try simp only [oS]) | refine ba_ ?_ | refine wM ?_ | refine wA ?_ | refine bn_ ?_)
 (first | refine or1 Try.func77 Try.results77 hQ rfl ?_ | refine on1 Try.func77 Try.results77 hQ rfl ?_)
 exact ⟨rfl,rfl,rfl⟩
def RdsO (L:List HProp) (a:Option Addr) (n:Nat) (vs:List Value):Prop:=n=vs.length∧(n=0∨∃ b o,a=some ⟨b,o,none⟩∧Rds L b o vs)
theorem RdsO.there {L:List HProp} {c:HProp} {a:Option Addr} {n:Nat} {vs:List Value} (h:RdsO L a n vs):RdsO (c::L) a n vs :=
 ⟨h.1,h.2.imp id fun ⟨b,o,e,r⟩=>⟨b,o,e,fun i v hi=>.there (r i v hi)⟩⟩
theorem RdsO.rds {L:List HProp} {a:Option Addr} {n:Nat} {vs:List Value} (h:RdsO L a n vs) (hn:0<n):∃ b o,a=some ⟨b,o,none⟩∧Rds L b o vs:=by
 rcases h.2 with h0 | h
 ·omega
 ·exact h
def bnv (tv fv:Value) (vs:List Value) (L:List HProp) (x:B.X):PB.Inv Nat B.X where
 e:=fun i=>[(0,tv),(1,fv),(7,.int .i64 (vs.length:Nat)),(8,.int .i64 (i:Nat))]
 L:=fun _=>L
 x:=fun _=>x
 ok:=fun i=>i≤vs.length∧∀ k v,k<i→vs[k]?=some v→isFn v
theorem ccj {a:Option Addr} {n c:Nat} {vs:List Value} (hvs:∀ v∈vs,v=.nilFunc∨isFn v) (hr:RdsO L a n vs) (hb:n<1000000) :
  Tr Try.prog B 105 [.slice a n c,.func (.func 77) #[] #[]] L x fun v L' x'=>(∃ j:Int,v=.int .i64 j∧((j<0∧∀ v∈vs,isFn v)∨(0≤j∧.nilFunc∈vs)))∧L'=L∧x'=x:=by
 obtain ⟨rfl,hr⟩:=hr
 refine bd_ Try.func105 rfl Try.ntmps105 (by simp) fun um Q _ hQ=>?_
 simp only [argE,Nat.zero_add,Nat.reduceAdd]
 repeat (first | refine bb_ ?_ | (refine wR ?_;try simp only [oS]) | refine ba_ ?_ | refine wM ?_ | refine wA ?_ | refine wE ?_ | refine bf_ ?_)
 refine de_ (bnv (.slice a vs.length c) (.func (.func 77) #[] #[]) vs L x) (fun i=>vs.length-i) 0 ⟨by omega,fun k v h=>by omega⟩ ⟨rfl,rfl,rfl,rfl,trivial⟩ .refl rfl ?_
 rintro i ⟨hi,hbe⟩
 simp only [bnv]
 by_cases hlt:i<vs.length
 ·obtain ⟨b,o,rfl,hrd⟩:∃ b o,a=some ⟨b,o,none⟩∧Rds L b o vs:=by
   rcases hr with h | h
   ·omega
   ·exact h
  have hri:=hrd i vs[i] (List.getElem?_eq_getElem hlt)
  repeat (first | (apply wo_po;apply cm_;exact rfl;exact rfl;omega;exact gY) | (apply wo_po;apply bc_;exact rfl;exact hri;exact trivial) | refine wlssT ?_ | refine bb_ ?_ | (refine wR ?_;try simp only [oS]) | refine ba_ ?_ | refine wM ?_ | refine wA ?_ | refine wT ?_ | refine bk_ ?_ | refine bf_ ?_)
  rcases hvs vs[i] (List.getElem_mem hlt) with hv | hv
  ·rw [hv]
   refine mw_ (args:=[_]) (first:=[]) (cap:=[]) rfl rfl (.cons rfl .nil) trivial (R:=fun v L' x'=>v=.bool true∧L'=L∧x'=x) bkv ?_
   rintro v L' x' ⟨rfl,rfl,rfl⟩
   repeat (first | refine bb_ ?_ | (refine wR ?_;try simp only [oS]) | refine ba_ ?_ | refine wM ?_ | refine wA ?_ | refine wT ?_ | refine bn_ ?_)
   (first | refine or1 Try.func105 Try.results105 hQ rfl ?_ | refine on1 Try.func105 Try.results105 hQ rfl ?_)
   exact ⟨⟨_,rfl,.inr ⟨by omega,by rw [← hv];exact List.getElem_mem hlt⟩⟩,rfl,rfl⟩
  ·refine mw_ (args:=[_]) (first:=[]) (cap:=[]) rfl rfl (.cons rfl .nil) trivial (R:=fun v L' x'=>v=.bool false∧L'=L∧x'=x) (bsk hv) ?_
   rintro v L' x' ⟨rfl,rfl,rfl⟩
   repeat (first | (refine wR ?_;try simp only [oS]) | refine ba_ ?_ | refine wM ?_ | refine wadd ?_ | refine wF ?_ | refine bk_ ?_)
   refine dr_ (I:=bnv (.slice (some ⟨b,o,none⟩) vs.length c) (.func (.func 77) #[] #[]) vs _ x') (R:=fun j=>vs.length-j<vs.length-i) (i+1) (by omega) ⟨by omega,fun k v hk hv'=>?_⟩ ⟨rfl,rfl,rfl,rfl,trivial⟩ .refl rfl
   by_cases e:k=i
   ·subst e;rw [List.getElem?_eq_getElem hlt] at hv';cases hv';exact hv
   ·exact hbe k v (by omega) hv'
 ·repeat (first | refine wlssF ?_ | refine bb_ ?_ | (refine wR ?_;try simp only [oS]) | refine ba_ ?_ | refine wA ?_ | refine wF ?_ | refine bn_ ?_ | refine cu_ ?_)
  (first | refine or1 Try.func105 Try.results105 hQ rfl ?_ | refine on1 Try.func105 Try.results105 hQ rfl ?_)
  refine ⟨⟨_,rfl,.inl ⟨by omega,fun v hv=>?_⟩⟩,rfl,rfl⟩
  obtain ⟨k,hk⟩:=List.mem_iff_getElem?.1 hv
  exact hbe k v (by have:=(List.getElem?_eq_some_iff.1 hk).1;omega) hk
theorem bkc {a:Option Addr} {n c:Nat} {vs:List Value} (hvs:∀ v∈vs,v=.nilFunc∨isFn v) (hr:RdsO L a n vs) (hb:n<1000000) :
  Tr Try.prog B 76 [.slice a n c,.func (.func 77) #[] #[]] L x fun v L' x'=>(∃ q,v=.bool q∧(if q=true then .nilFunc∈vs else ∀ v∈vs,isFn v))∧L'=L∧x'=x:=by
 refine bd_ Try.func76 rfl Try.ntmps76 (by simp) fun um Q _ hQ=>?_
 simp only [argE,Nat.zero_add,Nat.reduceAdd]
 repeat (first | refine bb_ ?_ | (refine wR ?_;try simp only [oS]) | refine ba_ ?_ | refine wM ?_ | refine wA ?_)
 refine bo_ (.cons rfl (.cons rfl .nil)) trivial (ccj hvs hr hb) ?_
 rintro v L' x' ⟨⟨j,rfl,hj⟩,rfl,rfl⟩
 rcases hj with ⟨h1,h2⟩ | ⟨h1,h2⟩
 ·repeat (first | refine wgeqF ?_ | refine ba_ ?_ | refine wA ?_ | refine bn_ ?_)
  (first | refine or1 Try.func76 Try.results76 hQ rfl ?_ | refine on1 Try.func76 Try.results76 hQ rfl ?_)
  exact ⟨⟨false,rfl,h2⟩,rfl,rfl⟩
 ·repeat (first | refine wgeqT ?_ | refine ba_ ?_ | refine wA ?_ | refine bn_ ?_)
  (first | refine or1 Try.func76 Try.results76 hQ rfl ?_ | refine on1 Try.func76 Try.results76 hQ rfl ?_)
  exact ⟨⟨true,rfl,h2⟩,rfl,rfl⟩
theorem bxf {a:Option Addr} {n c:Nat} {vs:List Value} (hvs:∀ v∈vs,v=.nilFunc∨isFn v) (hr:RdsO L a n vs) (hb:n<1000000) :
  Tr Try.prog B 55 [.slice a n c] L x fun v L' x'=>(∃ k:Int,v=.int .i64 k∧(((k=1∧.nilFunc∈vs)∨((∀ v∈vs,isFn v)∧k=if vs.length=0 then 2 else if 16<vs.length then 4 else 0))))∧L'=L∧x'=x:=by
 have hn:=hr.1
 refine bd_ Try.func55 rfl Try.ntmps55 (by simp) fun um Q _ hQ=>?_
 simp only [argE,Nat.zero_add,Nat.reduceAdd]
 repeat (first | refine bb_ ?_ | (refine wR ?_;try simp only [oS]) | refine ba_ ?_ | refine wM ?_ | refine wA ?_ | refine bf_ ?_)
 refine bo_ (.cons rfl (.cons rfl .nil)) trivial (bkc hvs hr hb) ?_
 rintro v L' x' ⟨⟨q,rfl,hq⟩,rfl,rfl⟩
 cases q with
 | true =>
  repeat (first | refine bb_ ?_ | (refine wR ?_;try simp only [oS]) | refine ba_ ?_ | refine wA ?_ | refine wT ?_ | refine bn_ ?_)
  (first | refine or1 Try.func55 Try.results55 hQ rfl ?_ | refine on1 Try.func55 Try.results55 hQ rfl ?_)
  exact ⟨⟨_,rfl,.inl ⟨rfl,hq⟩⟩,rfl,rfl⟩
 | false =>
  by_cases h0:n=0
  ·repeat (first | refine weqlT ?_ | refine bb_ ?_ | (refine wR ?_;try simp only [oS]) | refine ba_ ?_ | refine wM ?_ | refine wA ?_ | refine wE ?_ | refine wT ?_ | refine wF ?_ | refine bn_ ?_)
   (first | refine or1 Try.func55 Try.results55 hQ rfl ?_ | refine on1 Try.func55 Try.results55 hQ rfl ?_)
   exact ⟨⟨_,rfl,.inr ⟨hq,by rw [if_pos (by omega)]⟩⟩,rfl,rfl⟩
  by_cases h1:16<n
  ·repeat (first | refine wgtrT ?_ | refine weqlF ?_ | refine bb_ ?_ | (refine wR ?_;try simp only [oS]) | refine ba_ ?_ | refine wM ?_ | refine wA ?_ | refine wE ?_ | refine wT ?_ | refine wF ?_ | refine bn_ ?_)
   (first | refine or1 Try.func55 Try.results55 hQ rfl ?_ | refine on1 Try.func55 Try.results55 hQ rfl ?_)
   exact ⟨⟨_,rfl,.inr ⟨hq,by rw [if_neg (by omega),if_pos (by omega)]⟩⟩,rfl,rfl⟩
  ·repeat (first | refine wgtrF ?_ | refine weqlF ?_ | refine bb_ ?_ | (refine wR ?_;try simp only [oS]) | refine ba_ ?_ | refine wM ?_ | refine wA ?_ | refine wE ?_ | refine wF ?_ | refine bn_ ?_ | refine bk_ ?_)
   (first | refine or1 Try.func55 Try.results55 hQ rfl ?_ | refine on1 Try.func55 Try.results55 hQ rfl ?_)
   exact ⟨⟨_,rfl,.inr ⟨hq,by rw [if_neg (by omega),if_neg (by omega)]⟩⟩,rfl,rfl⟩
end
end Go.Proofs.Ytnnpdmhmpgmpnaa
namespace Go.Proofs.Ytnnpdmhmpgmpnaa
open Go Go.PB
attribute [local irreducible] Mo Bin Eql Tr Wo Ap Wle
attribute [local instance] Pass.of_no
section
structure Thr (g:Game) where
 fv:Value
 ini:g.σ→g.σ × g.θ
 M:HProp
section
variable {g:Game}
def dz_:List (Thr g)→g.σ→g.σ × List g.θ
 | [],s=>(s,[])
 | t::ts,s=>((dz_ ts (t.ini s).1).1,(t.ini s).2::(dz_ ts (t.ini s).1).2)
theorem vv_ {t:Thr g}:∀ (l:List (Thr g)) (s:g.σ),dz_ (l++[t]) s=((t.ini (dz_ l s).1).1,(dz_ l s).2++[(t.ini (dz_ l s).1).2])
 | [],s=>rfl
 | a::l,s=>by simp only [List.cons_append,dz_,vv_ l]
theorem mi_:∀ (l:List (Thr g)) (s:g.σ),(dz_ l s).2.length=l.length
 | [],s=>rfl
 | a::l,s=>by simp [dz_,mi_ l]
def ordF (p:PS g) (order:List Int):PS g:=order.foldl (fun p k=>(takeF p k).1) p
def dc_ (p:PS g):Nat→PS g × Bool
 | 0=>(p,false)
 | k+1=>((takeF (dc_ p k).1 k).1,(takeF (dc_ p k).1 k).2||(dc_ p k).2)
def restF:Nat→PS g→PS g
 | 0,p=>p
 | n+1,p=>if (dc_ p p.qs.length).2=true then restF n (dc_ p p.qs.length).1 else (dc_ p p.qs.length).1
def playF (ts:List (Thr g)) (s:g.σ) (order:List Int):PS g:=restF 16385 (ordF ⟨(dz_ ts s).1,(dz_ ts s).2,[]⟩ order)
def cutC (l:List Nat):List Value:=l.map fun k=>.int .i64 (k:Nat)
theorem sb_ (p:PS g):∀ n,(dc_ p n).1.qs.length=p.qs.length
 | 0=>rfl
 | n+1=>by show (takeF _ _).1.qs.length=_;rw [zs_,sb_ p n]
theorem vg_ {p:PS g} (h:p.tr.length≤16384):∀ n,(dc_ p n).1.tr.length≤16384
 | 0=>h
 | n+1=>bgq (vg_ h n) _
theorem vu_ (p:PS g) (k:Int):takeF p k=(p,false)∨∃ (n:Nat) (q:g.θ) (m:Int × Int) (f:g.σ→g.σ × g.θ),k=n∧p.qs[n]?=some q∧g.plan q=some (m,f)∧p.tr.length≠16384∧takeF p k=(⟨(f p.s).1,p.qs.set n (f p.s).2,p.tr++[(n,m)]⟩,true):=by
 by_cases h0:k<0
 ·left;unfold takeF;rw [if_pos h0]
 obtain ⟨n,rfl⟩:∃ n:Nat,k=n:=⟨k.toNat,by omega⟩
 cases hq:p.qs[n]? with
 | none=>left;unfold takeF;rw [if_neg h0,Int.toNat_natCast,hq]
 | some q =>
  cases hpl:g.plan q with
  | none=>left;unfold takeF;rw [if_neg h0,Int.toNat_natCast,hq];simp only [hpl]
  | some mf =>
   obtain ⟨m,f⟩:=mf
   by_cases htr:p.tr.length=16384
   ·left;unfold takeF;rw [if_neg h0,Int.toNat_natCast,hq];simp only [hpl,if_pos htr]
   ·right;refine ⟨n,q,m,f,rfl,hq,hpl,htr,?_⟩
    unfold takeF;rw [if_neg h0,Int.toNat_natCast,hq];simp only [hpl,if_neg htr]
theorem bmn (p:PS g) (k:Int):p.tr.length+(if (takeF p k).2=true then 1 else 0)≤(takeF p k).1.tr.length:=by
 rcases vu_ p k with h | ⟨n,q,m,f,_,_,_,_,h⟩ <;> rw [h] <;> simp
theorem pf_ (p:PS g):∀ n,p.tr.length+(if (dc_ p n).2=true then 1 else 0)≤(dc_ p n).1.tr.length
 | 0=>by simp [dc_]
 | n+1=>by
  have h1:=pf_ p n
  have h2:=bmn (dc_ p n).1 n
  show p.tr.length+(if ((takeF (dc_ p n).1 n).2||(dc_ p n).2)=true then 1 else 0)≤(takeF (dc_ p n).1 n).1.tr.length
  cases h3:(takeF (dc_ p n).1 n).2 <;> cases h4:(dc_ p n).2 <;> simp [h3,h4] at h1 h2 ⊢ <;> omega
theorem cbs (order:List Int):∀ p:PS g,(ordF p order).qs.length=p.qs.length:=by
 induction order with
 | nil=>intro p;rfl
 | cons k l ih=>intro p;show (ordF (takeF p k).1 l).qs.length=_;rw [ih,zs_]
theorem chk (order:List Int):∀ p:PS g,p.tr.length≤16384→(ordF p order).tr.length≤16384:=by
 induction order with
 | nil=>intro p h;exact h
 | cons k l ih=>intro p h;exact ih _ (bgq h k)
theorem btt (p:PS g) (l:List Int) (k:Int):ordF p (l++[k])=(takeF (ordF p l) k).1:=by simp [ordF]
def cutN (g:Game) (qs:List g.θ) (j:Nat):List Nat:=(List.range j).filter fun k=>((qs[k]?).bind g.plan).isSome
theorem bcc {qs:List g.θ} {j:Nat}:cutN g qs (j+1)=cutN g qs j++(if ((qs[j]?).bind g.plan).isSome=true then [j] else []):=by
 unfold cutN
 rw [List.range_succ,List.filter_append]
 congr 1
 simp only [List.filter_cons,List.filter_nil]
def shutS (ids:List SId) (qs:List g.θ) (j:Nat):List (Seat g.σ g.θ):=(List.zip ids qs).mapIdx fun k iq=>if k<j then ⟨iq.1.says,iq.1.turn,iq.1.fin,.shut iq.2⟩ else seatS iq.1 iq.2
theorem bmt {ids:List SId} {qs:List g.θ}:shutS ids qs 0=fy_ ids qs:=by
 apply List.ext_getElem?
 intro k
 simp only [shutS,List.getElem?_mapIdx,fy_,List.getElem?_zipWith,List.getElem?_zip_eq_some,List.zip,Nat.not_lt_zero,if_false]
 cases ids[k]? <;> cases qs[k]? <;> rfl
theorem px_ {ids:List SId} {qs:List g.θ} {j:Nat} (h:ids.length=qs.length):(shutS ids qs j).length=ids.length:=by simp [shutS];omega
theorem ma_ {ids:List SId} {qs:List g.θ} {j k:Nat} {i:SId} {q:g.θ} (hi:ids[k]?=some i) (hq:qs[k]?=some q):(shutS ids qs j)[k]?=some (if k<j then ⟨i.says,i.turn,i.fin,.shut q⟩ else seatS i q):=by
 simp [shutS,List.getElem?_mapIdx,List.zip,List.getElem?_zipWith,hi,hq]
theorem xn_ {ids:List SId} {qs:List g.θ} {j:Nat} {i:SId} {q:g.θ} (hi:ids[j]?=some i) (hq:qs[j]?=some q):(shutS ids qs j).set j ⟨i.says,i.turn,i.fin,.shut q⟩=shutS ids qs (j+1):=by
 apply List.ext_getElem?
 intro k
 have hj:j<(shutS ids qs j).length:=(List.getElem?_eq_some_iff.1 (ma_ (j:=j) hi hq)).1
 rw [List.getElem?_set]
 by_cases e:j=k
 ·subst e
  rw [if_pos rfl,if_pos hj,ma_ hi hq,if_pos (by omega)]
 ·rw [if_neg e]
  simp only [shutS,List.getElem?_mapIdx]
  cases (ids.zip qs)[k]? with
  | none=>rfl
  | some iq =>
   simp only [Option.map_some,Option.some.injEq]
   by_cases h:k<j
   ·rw [if_pos h,if_pos (by omega)]
   ·rw [if_neg h,if_neg (by omega)]
theorem btc {ids:List SId} {qs:List g.θ} (h:ids.length=qs.length):(shutS ids qs ids.length).map Seat.fins=qs.map g.Fin:=by
 apply List.ext_getElem?
 intro k
 by_cases hk:k<ids.length
 ·have hi:=List.getElem?_eq_getElem hk
  have hq:=List.getElem?_eq_getElem (show k<qs.length by omega)
  rw [List.getElem?_map,ma_ hi hq,if_pos hk,List.getElem?_map,hq]
  rfl
 ·rw [List.getElem?_eq_none (by simp [px_ h];omega),List.getElem?_eq_none (by simp;omega)]
theorem bcv {ids:List SId} {qs:List g.θ} (h:ids.length=qs.length):∀ s∈shutS ids qs ids.length,s.closed:=by
 intro s hs
 obtain ⟨k,hk⟩:=List.mem_iff_getElem?.1 hs
 have hlt:=(List.getElem?_eq_some_iff.1 hk).1
 rw [px_ h] at hlt
 rw [ma_ (List.getElem?_eq_getElem hlt) (List.getElem?_eq_getElem (show k<qs.length by omega)),if_pos hlt] at hk
 cases hk
 trivial
end
section
variable {g:Game} {ts:List (Thr g)} {s0:g.σ} {F:List HProp} {wg pb rb:Nat} {ov tv:Value}
theorem bsz {c:HProp} {M L:List HProp} {h:Hp} (s:Star (all (c::M)::L) h):Star (c::all M::L) h :=
 bm_ (ci_ s) (fun _ a=>a) (fun _ st=>bv_ (M:=M) st)
def ty_ (ts:List (Thr g)) (s0:g.σ) (wg pb rb:Nat) (ov tv:Value) (F:List HProp):PB.Inv (Nat × g.σ × List g.θ × List SId × Value) MX where
 e:=fun i=>[(0,ov),(1,tv),(4,.pointer (some ⟨rb,0,none⟩)),(7,.pointer (some ⟨wg,0,none⟩)),(8,.pointer (some ⟨pb,0,none⟩)),(28,tv),(29,.int .i64 (ts.length:Nat)),(30,.int .i64 (i.1:Nat))]
 L:=fun i=>g.U i.2.1::arr pb 0 [i.2.2.2.2,.slice none 0 0,.slice none 0 0]::vec 1 i.2.2.2.2 (ptrs i.2.2.2.1)::all (fg_ g i.2.2.2.1 i.2.2.1)::all ((ts.drop i.1).map Thr.M)::arr rb 0 [.slice none 0 0,.slice none 0 0]::F
 x:=fun i=>gx g wg (fy_ i.2.2.2.1 i.2.2.1) (some i.2.1) 16384 (fy_ i.2.2.2.1 i.2.2.1).length
 ok:=fun i=>i.1≤ts.length∧i.2.2.2.1.length=i.1∧dz_ (ts.take i.1) s0=(i.2.1,i.2.2.1)
def bqw (wg pb rb j n:Nat) (ov tv fv:Value) (x:MX) (L:List HProp):PB.Inv (Nat × Nat × Nat × Nat) MX where
 e:=fun i=>[(0,ov),(1,tv),(4,.pointer (some ⟨rb,0,none⟩)),(7,.pointer (some ⟨wg,0,none⟩)),(8,.pointer (some ⟨pb,0,none⟩)),(28,tv),(29,.int .i64 (n:Nat)),(30,.int .i64 (j:Nat)),(10,fv),(11,.pointer (some ⟨i.1,0,none⟩))]
 L:=fun i=>arr i.1 0 [.chan (some i.2.2.1),.chan (some i.2.2.2),.chan (some i.2.1),.int .u8 0,.int .i64 0,.bool false]::ob i.2.1 fb_::ob i.2.2.1 fb_::ob i.2.2.2 fb_::L
 x:=fun _=>x
 ok:=fun _=>True
def bnd (p0:PS g) (order:List Int) (ids:List SId) (wg pb rb:Nat) (ov:Value) (ss:Value) (F:List HProp):PB.Inv (Nat × Value) MX where
 e:=fun i=>[(4,.pointer (some ⟨rb,0,none⟩)),(7,.pointer (some ⟨wg,0,none⟩)),(8,.pointer (some ⟨pb,0,none⟩)),(49,ov),(50,.int .i64 (order.length:Nat)),(51,.int .i64 (i.1:Nat))]
 L:=fun i=>playL g pb ss i.2 (.slice none 0 0) ids (ordF p0 (order.take i.1)) F
 x:=fun i=>playX g wg ids (ordF p0 (order.take i.1))
 ok:=fun i=>i.1≤order.length
def bdc (I:PS g→Prop) (p0:PS g) (ids:List SId) (wg pb rb:Nat) (ss:Value) (F:List HProp):PB.Inv (Nat × PS g × Value × Bool) MX where
 e:=fun i=>[(4,.pointer (some ⟨rb,0,none⟩)),(7,.pointer (some ⟨wg,0,none⟩)),(8,.pointer (some ⟨pb,0,none⟩)),(14,.bool i.2.2.2)]
 L:=fun i=>playL g pb ss i.2.2.1 (.slice none 0 0) ids i.2.1 F
 x:=fun i=>playX g wg ids i.2.1
 ok:=fun i=>I i.2.1∧i.2.1.qs.length=p0.qs.length∧i.2.1.tr.length≤16384∧(if i.2.2.2=true then restF i.1 i.2.1=restF 16385 p0∧16384<i.2.1.tr.length+i.1 else i.2.1=restF 16385 p0)
def wr_ (p:PS g) (ids:List SId) (wg pb rb:Nat) (ss:Value) (F:List HProp):PB.Inv (Nat × Value) MX where
 e:=fun i=>[(4,.pointer (some ⟨rb,0,none⟩)),(7,.pointer (some ⟨wg,0,none⟩)),(8,.pointer (some ⟨pb,0,none⟩)),(14,.bool (dc_ p i.1).2),(61,.int .i64 (ids.length:Nat)),(62,.int .i64 (i.1:Nat))]
 L:=fun i=>playL g pb ss i.2 (.slice none 0 0) ids (dc_ p i.1).1 F
 x:=fun i=>playX g wg ids (dc_ p i.1).1
 ok:=fun i=>i.1≤ids.length
def sg_ (p:PS g) (ids:List SId) (wg pb rb:Nat) (ss tsv:Value) (F:List HProp):PB.Inv (Nat × Value) MX where
 e:=fun i=>[(4,.pointer (some ⟨rb,0,none⟩)),(7,.pointer (some ⟨wg,0,none⟩)),(8,.pointer (some ⟨pb,0,none⟩)),(72,ss),(73,.int .i64 (ids.length:Nat)),(74,.int .i64 (i.1:Nat))]
 L:=fun i=>vec 1 i.2 (cutC (cutN g p.qs i.1))::arr pb 0 [ss,tsv,i.2]::vec 1 ss (ptrs ids)::vec 3 tsv (trCP p.tr)::all (fg_ g ids p.qs)::g.U p.s::F
 x:=fun i=>gx g wg (shutS ids p.qs i.1) (some p.s) (16384-p.tr.length) ids.length
 ok:=fun i=>i.1≤ids.length
set_option maxHeartbeats 4000000 in
theorem cbh {oa ta:Option Addr} {on oc tn tc:Nat} {order:List Int} (I:PS g→Prop) (hS:∀ j,j<ts.length→g.ok (dz_ (ts.take j) s0).1) (hI0:I ⟨(dz_ ts s0).1,(dz_ ts s0).2,[]⟩) (hIs:∀ p k,I p→I (takeF p k).1) (hIo:∀ p,I p→p.tr.length<16384→g.ok p.s) (hfin:∀ q h,g.Pv q h→g.Fin q h) (hts:∀ t∈ts,ThrOk g t.ini t.fv t.M) (h1:0<ts.length) (h16:ts.length≤16) (hor:order.length≤16384)
  (hrt:RdsO F ta tn (ts.map Thr.fv)) (hro:RdsO F oa on (order.map fun k=>.int .i64 k)) :
  Tr Try.prog mT 30 [.slice oa on oc,.slice ta tn tc] (g.U s0::all (ts.map Thr.M)::F) .idle fun v L' x' =>
   ∃ tv cv,v=.tuple #[.agg #[tv,cv],.int .i64 0]∧x'=.idle∧L'=vec 3 tv (trCP (playF ts s0 order).tr)::vec 1 cv (cutC (cutN g (playF ts s0 order).qs ts.length))::g.U (playF ts s0 order).s::all ((playF ts s0 order).qs.map g.Fin)::F:=by
 refine Tr.post (R:=fun v L' x'=>∃ tv cv,v=.tuple #[.agg #[tv,cv],.int .i64 0]∧x'=MX.idle∧∀ h,Star L' h→Star (vec 3 tv (trCP (playF ts s0 order).tr)::vec 1 cv (cutC (cutN g (playF ts s0 order).qs ts.length))::g.U (playF ts s0 order).s::all ((playF ts s0 order).qs.map g.Fin)::F) h) ?_
  (by rintro v L' x' ⟨tv,cv,rfl,rfl,h2⟩;exact ⟨_,⟨tv,cv,rfl,rfl,rfl⟩,h2⟩)
 have hfn:∀ v∈ts.map Thr.fv,isFn v:=by
  intro v hv
  obtain ⟨t,ht,rfl⟩:=List.mem_map.1 hv
  obtain ⟨f,first,cap,hc,_⟩:=(hts t ht).run
  revert hc
  cases t.fv with
  | func a b c=>exact fun _=>⟨a,b,c,rfl⟩
  | _=>intro hc;cases hc
 have hIord:∀ (l:List Int) (p:PS g),I p→I (ordF p l):=by
  intro l
  induction l with
  | nil=>exact fun p h=>h
  | cons k l ih=>exact fun p h=>ih _ (hIs p k h)
 have hIrnd:∀ (p:PS g) k,I p→I (dc_ p k).1:=by
  intro p k h
  induction k with
  | zero=>exact h
  | succ k ih=>exact hIs _ _ ih
 have htn:tn=ts.length:=by have:=hrt.1;simpa using this
 have hon:on=order.length:=by have:=hro.1;simpa using this
 subst htn
 subst hon
 refine bd_ Try.func30 rfl Try.ntmps30 (by simp) fun um Q _ hQ=>?_
 simp only [argE,Nat.zero_add,Nat.reduceAdd]
 repeat (first | (apply wo_mo;apply ck_;exact trivial) | refine bb_ ?_ | (refine wR ?_;try simp only [oS]))
 rintro v' L' ⟨rb,rfl,rfl⟩
 repeat (first | refine bb_ ?_ | (refine wR ?_;try simp only [oS]) | refine ba_ ?_ | refine wM ?_ | refine wA ?_)
 refine bo_ (.cons rfl .nil) trivial (bxf (fun v hv=>.inr (hfn v hv)) hrt.there.there.there (by omega)) ?_
 rintro v' L' x' ⟨⟨k,rfl,hk⟩,rfl,rfl⟩
 obtain rfl:k=0:=by
  rcases hk with ⟨_,h⟩ | ⟨_,h⟩
  ·obtain ⟨_,_,_,h⟩:=hfn _ h;cases h
  ·rw [h,List.length_map,if_neg (by omega),if_neg (by omega)]
 repeat (first | (apply wo_mo;apply bvf;exact trivial) | refine wgtrF ?_ | refine wneqF ?_ | refine bb_ ?_ | (refine wR ?_;try simp only [oS]) | refine ba_ ?_ | refine wM ?_ | refine wA ?_ | refine wE ?_ | refine wF ?_ | refine bk_ ?_)
 rintro v' L' ⟨wg,rfl,rfl⟩
 repeat (first | refine bb_ ?_ | (refine wR ?_;try simp only [oS]) | refine ba_ ?_)
 refine bxq g s0 (wg:=wg) (R:=arr rb 0 [.slice none 0 0,.slice none 0 0]::g.U s0::all (ts.map Thr.M)::F) (fun h st=>st) ?_
 repeat (first | (apply wo_mo;apply ck_;exact trivial))
 rintro v' L' ⟨pb,rfl,rfl⟩
 repeat (first | refine bb_ ?_ | (refine wR ?_;try simp only [oS]) | refine ba_ ?_ | refine wM ?_ | refine wE ?_ | refine bf_ ?_)
 refine di_ (vec 1 (.slice none 0 0) (ptrs [])::all (fg_ g [] [])::arr pb 0 [.slice none 0 0,.slice none 0 0,.slice none 0 0]::shpC wg 144 2::arr rb 0 [.slice none 0 0,.slice none 0 0]::g.U s0::all (ts.map Thr.M)::F) (fun h st=>dp_ (bv_ (M:=[]) st)) ?_
 refine de_ (ty_ ts s0 wg pb rb (.slice oa order.length oc) (.slice ta ts.length tc) (shpC wg 144 2::F)) (fun i=>ts.length-i.1) (0,s0,[],[],.slice none 0 0) ⟨by omega,rfl,rfl⟩ ⟨rfl,rfl,rfl,rfl,rfl,rfl,rfl,rfl,trivial⟩ (.take (.there (.there (.there (.there (.there .here))))) (.take (.there (.there .here)) (.take .here (.take .here (.take (.there (.there .here)) (.take (.there .here) (.take .here .refl))))))) rfl ?_
 rintro ⟨j,s,qs,ids,ss⟩ ⟨hj,hids,hst⟩
 simp only at hj hids hst
 have hqs:qs.length=j:=by have:=mi_ (ts.take j) s0;rw [hst] at this;simpa [Nat.min_eq_left hj] using this
 have hsl:(fy_ ids qs).length=ids.length:=by simp [fy_];omega
 simp only [ty_]
 by_cases hlt:j<ts.length
 ·obtain ⟨tb,to,rfl,hrd⟩:=hrt.rds (by omega)
  have ht:ts[j]?=some ts[j]:=List.getElem?_eq_getElem hlt
  have hrj:=hrd j (ts[j].fv) (by simp [ht])
  have hTO:=hts _ (List.getElem_mem hlt)
  have hdrop:ts.drop j=ts[j]::ts.drop (j+1):=List.drop_eq_getElem_cons hlt
  rw [hdrop]
  refine di_ (g.U s::arr pb 0 [ss,.slice none 0 0,.slice none 0 0]::vec 1 ss (ptrs ids)::all (fg_ g ids qs)::ts[j].M::all ((ts.drop (j+1)).map Thr.M)::arr rb 0 [.slice none 0 0,.slice none 0 0]::shpC wg 144 2::F) (fun h st=>Ent.star (.take (.there (.there .here)) (.take (.there (.there .here)) (.take (.there (.there .here)) (.take (.there (.there .here)) (.take .here (.take .here .refl)))))) (bsz (((.there (.there (.there (.there .here)))):Has _ (all ((ts[j]::ts.drop (j+1)).map Thr.M)) _).star st))) ?_
  repeat (first | (apply wo_po;apply cm_;exact rfl;exact rfl;omega;exact gY) | (apply wo_po;apply bc_;exact rfl;exact .there (.there (.there (.there (.there (.there (.there (.there hrj)))))));exact trivial) | refine wlssT ?_ | refine bb_ ?_ | (refine wR ?_;try simp only [oS]) | refine ba_ ?_ | refine wA ?_ | refine wT ?_ | refine bk_ ?_ | refine bf_ ?_)
  let MI:=bqw wg pb rb j ts.length (.slice oa order.length oc) (.slice (some ⟨tb,to,none⟩) ts.length tc) ts[j].fv (gx g wg (fy_ ids qs) (some s) 16384 (fy_ ids qs).length) (g.U s::arr pb 0 [ss,.slice none 0 0,.slice none 0 0]::vec 1 ss (ptrs ids)::all (fg_ g ids qs)::ts[j].M::all ((ts.drop (j+1)).map Thr.M)::arr rb 0 [.slice none 0 0,.slice none 0 0]::shpC wg 144 2::F)
  refine pv_ MI ?_ ?_
  ·refine br_ (List.range' 0 6) (by kernel_rfl) ?_
   refine cfb (f:=1) (g:=2) (ordf:=[1,0,2,3,4,5]) (ordg:=[2,0,1,3,4,5]) (Rf:=[2,3,4,5]) (Rg:=[1,3,4,5]) (by kernel_rfl) (by kernel_rfl) (by kernel_rfl) (by kernel_rfl) (by kernel_rfl) (by kernel_rfl) (by kernel_rfl) (by kernel_rfl) (by kernel_rfl) ?_ ?_ ?_
   ·refine kn_ (Pd':=[]) rfl rfl rfl trivial (dm_ (m:=0) (k:=.i64) rfl (by omega) (by omega)) (fun v L' _ p hp=>by cases hp) ?_
    rintro v' L' ⟨ct,rfl,rfl⟩
    refine za_ (f:=2) (ordf:=[0,2,1,3,4,5]) (Rf:=[3,4,5]) (by kernel_rfl) (by kernel_rfl) (by kernel_rfl) (by kernel_rfl) (by kernel_rfl) ?_ ?_
    ·refine kn_ (Pd':=[]) rfl rfl rfl trivial (dm_ (m:=0) (k:=.i64) rfl (by omega) (by omega)) (fun v L' _ p hp=>by cases hp) ?_
     rintro v' L' ⟨ce,rfl,rfl⟩
     refine cg_ rfl rfl rfl rfl rfl trivial (dm_ (m:=0) (k:=.i64) rfl (by omega) (by omega)) ?_
     rintro v' L' ⟨cs,rfl,rfl⟩
     repeat (first | (apply be_;exact rfl;exact rfl;exact trivial;intro L;apply dq_ (pv:=[(0,_),(1,_),(2,_)]);exact rfl;exact .cons rfl (.cons rfl (.cons rfl .nil));exact rfl))
     refine cg_ rfl rfl rfl rfl rfl trivial (ct_ rfl) ?_
     rintro v' L' ⟨sb,rfl,rfl⟩
     repeat (first | refine aA ?_ | refine bz_ ?_)
     refine gt_ (B:=mT) (I:=MI) (sb,cs,ct,ce) trivial ?_ ?_ rfl
     exact ⟨rfl,rfl,rfl,rfl,rfl,rfl,rfl,rfl,rfl,rfl,trivial⟩
     repeat (first | exact Ent.refl | (apply Ent.take;(repeat (first | exact Has.here | apply Has.there))) | apply Ent.drop)
    ·refine kn_ (Pd':=[]) rfl rfl rfl trivial (dm_ (m:=0) (k:=.i64) rfl (by omega) (by omega)) (fun v L' _ p hp=>by cases hp) ?_
     rintro v' L' ⟨cs,rfl,rfl⟩
     refine cg_ rfl rfl rfl rfl rfl trivial (dm_ (m:=0) (k:=.i64) rfl (by omega) (by omega)) ?_
     rintro v' L' ⟨ce,rfl,rfl⟩
     repeat (first | (apply be_;exact rfl;exact rfl;exact trivial;intro L;apply dq_ (pv:=[(0,_),(1,_),(2,_)]);exact rfl;exact .cons rfl (.cons rfl (.cons rfl .nil));exact rfl))
     refine cg_ rfl rfl rfl rfl rfl trivial (ct_ rfl) ?_
     rintro v' L' ⟨sb,rfl,rfl⟩
     repeat (first | refine aA ?_ | refine bz_ ?_)
     refine gt_ (B:=mT) (I:=MI) (sb,cs,ct,ce) trivial ?_ ?_ rfl
     exact ⟨rfl,rfl,rfl,rfl,rfl,rfl,rfl,rfl,rfl,rfl,trivial⟩
     repeat (first | exact Ent.refl | (apply Ent.take;(repeat (first | exact Has.here | apply Has.there))) | apply Ent.drop)
   ·refine kn_ (Pd':=[]) rfl rfl rfl trivial (dm_ (m:=0) (k:=.i64) rfl (by omega) (by omega)) (fun v L' _ p hp=>by cases hp) ?_
    rintro v' L' ⟨ce,rfl,rfl⟩
    refine za_ (f:=2) (ordf:=[1,2,0,3,4,5]) (Rf:=[3,4,5]) (by kernel_rfl) (by kernel_rfl) (by kernel_rfl) (by kernel_rfl) (by kernel_rfl) ?_ ?_
    ·refine kn_ (Pd':=[]) rfl rfl rfl trivial (dm_ (m:=0) (k:=.i64) rfl (by omega) (by omega)) (fun v L' _ p hp=>by cases hp) ?_
     rintro v' L' ⟨ct,rfl,rfl⟩
     refine cg_ rfl rfl rfl rfl rfl trivial (dm_ (m:=0) (k:=.i64) rfl (by omega) (by omega)) ?_
     rintro v' L' ⟨cs,rfl,rfl⟩
     repeat (first | (apply be_;exact rfl;exact rfl;exact trivial;intro L;apply dq_ (pv:=[(0,_),(1,_),(2,_)]);exact rfl;exact .cons rfl (.cons rfl (.cons rfl .nil));exact rfl))
     refine cg_ rfl rfl rfl rfl rfl trivial (ct_ rfl) ?_
     rintro v' L' ⟨sb,rfl,rfl⟩
     repeat (first | refine aA ?_ | refine bz_ ?_)
     refine gt_ (B:=mT) (I:=MI) (sb,cs,ct,ce) trivial ?_ ?_ rfl
     exact ⟨rfl,rfl,rfl,rfl,rfl,rfl,rfl,rfl,rfl,rfl,trivial⟩
     repeat (first | exact Ent.refl | (apply Ent.take;(repeat (first | exact Has.here | apply Has.there))) | apply Ent.drop)
    ·refine kn_ (Pd':=[]) rfl rfl rfl trivial (dm_ (m:=0) (k:=.i64) rfl (by omega) (by omega)) (fun v L' _ p hp=>by cases hp) ?_
     rintro v' L' ⟨cs,rfl,rfl⟩
     refine cg_ rfl rfl rfl rfl rfl trivial (dm_ (m:=0) (k:=.i64) rfl (by omega) (by omega)) ?_
     rintro v' L' ⟨ct,rfl,rfl⟩
     repeat (first | (apply be_;exact rfl;exact rfl;exact trivial;intro L;apply dq_ (pv:=[(0,_),(1,_),(2,_)]);exact rfl;exact .cons rfl (.cons rfl (.cons rfl .nil));exact rfl))
     refine cg_ rfl rfl rfl rfl rfl trivial (ct_ rfl) ?_
     rintro v' L' ⟨sb,rfl,rfl⟩
     repeat (first | refine aA ?_ | refine bz_ ?_)
     refine gt_ (B:=mT) (I:=MI) (sb,cs,ct,ce) trivial ?_ ?_ rfl
     exact ⟨rfl,rfl,rfl,rfl,rfl,rfl,rfl,rfl,rfl,rfl,trivial⟩
     repeat (first | exact Ent.refl | (apply Ent.take;(repeat (first | exact Has.here | apply Has.there))) | apply Ent.drop)
   ·refine kn_ (Pd':=[]) rfl rfl rfl trivial (dm_ (m:=0) (k:=.i64) rfl (by omega) (by omega)) (fun v L' _ p hp=>by cases hp) ?_
    rintro v' L' ⟨cs,rfl,rfl⟩
    refine za_ (f:=1) (ordf:=[2,1,0,3,4,5]) (Rf:=[3,4,5]) (by kernel_rfl) (by kernel_rfl) (by kernel_rfl) (by kernel_rfl) (by kernel_rfl) ?_ ?_
    ·refine kn_ (Pd':=[]) rfl rfl rfl trivial (dm_ (m:=0) (k:=.i64) rfl (by omega) (by omega)) (fun v L' _ p hp=>by cases hp) ?_
     rintro v' L' ⟨ct,rfl,rfl⟩
     refine cg_ rfl rfl rfl rfl rfl trivial (dm_ (m:=0) (k:=.i64) rfl (by omega) (by omega)) ?_
     rintro v' L' ⟨ce,rfl,rfl⟩
     repeat (first | (apply be_;exact rfl;exact rfl;exact trivial;intro L;apply dq_ (pv:=[(0,_),(1,_),(2,_)]);exact rfl;exact .cons rfl (.cons rfl (.cons rfl .nil));exact rfl))
     refine cg_ rfl rfl rfl rfl rfl trivial (ct_ rfl) ?_
     rintro v' L' ⟨sb,rfl,rfl⟩
     repeat (first | refine aA ?_ | refine bz_ ?_)
     refine gt_ (B:=mT) (I:=MI) (sb,cs,ct,ce) trivial ?_ ?_ rfl
     exact ⟨rfl,rfl,rfl,rfl,rfl,rfl,rfl,rfl,rfl,rfl,trivial⟩
     repeat (first | exact Ent.refl | (apply Ent.take;(repeat (first | exact Has.here | apply Has.there))) | apply Ent.drop)
    ·refine kn_ (Pd':=[]) rfl rfl rfl trivial (dm_ (m:=0) (k:=.i64) rfl (by omega) (by omega)) (fun v L' _ p hp=>by cases hp) ?_
     rintro v' L' ⟨ce,rfl,rfl⟩
     refine cg_ rfl rfl rfl rfl rfl trivial (dm_ (m:=0) (k:=.i64) rfl (by omega) (by omega)) ?_
     rintro v' L' ⟨ct,rfl,rfl⟩
     repeat (first | (apply be_;exact rfl;exact rfl;exact trivial;intro L;apply dq_ (pv:=[(0,_),(1,_),(2,_)]);exact rfl;exact .cons rfl (.cons rfl (.cons rfl .nil));exact rfl))
     refine cg_ rfl rfl rfl rfl rfl trivial (ct_ rfl) ?_
     rintro v' L' ⟨sb,rfl,rfl⟩
     repeat (first | refine aA ?_ | refine bz_ ?_)
     refine gt_ (B:=mT) (I:=MI) (sb,cs,ct,ce) trivial ?_ ?_ rfl
     exact ⟨rfl,rfl,rfl,rfl,rfl,rfl,rfl,rfl,rfl,rfl,trivial⟩
     repeat (first | exact Ent.refl | (apply Ent.take;(repeat (first | exact Has.here | apply Has.there))) | apply Ent.drop)
  ·rintro ⟨sb,cs,ct,ce⟩ _
   simp only [MI,bqw]
   repeat (first | refine bb_ ?_ | (refine wR ?_;try simp only [oS]) | refine wM ?_)
   refine bo_ (.cons rfl (.cons rfl (.cons rfl .nil))) trivial (Tr.ent (L':=g.U s::ts[j].M::arr sb 0 [.chan (some ct),.chan (some ce),.chan (some cs),.int .u8 0,.int .i64 0,.bool false]::ob cs fb_::ob ct fb_::ob ce fb_::arr pb 0 [ss,.slice none 0 0,.slice none 0 0]::vec 1 ss (ptrs ids)::all (fg_ g ids qs)::all ((ts.drop (j+1)).map Thr.M)::arr rb 0 [.slice none 0 0,.slice none 0 0]::shpC wg 144 2::F) (.take (.there (.there (.there (.there .here)))) (.take (.there (.there (.there (.there (.there (.there (.there .here))))))) (.take .here (.take .here (.take .here (.take .here .refl)))))) (cmh hTO (by have:=hS j hlt;rw [hst] at this;exact this) hfin (by rw [hsl];omega) (fun h st=>cbb (.there (.there (.there (.there (.there .here))))) st))) ?_
   rintro v' L' x' ⟨rfl,rfl,rfl⟩
   refine cn_ (bp_ (.there (.there (.there (.there .here)))) (bg_ (by omega))) ?_
   rintro ⟨sa,sn,sc,rfl,hsn,_⟩
   have hsn:sn=ids.length:=by simp [ptrs] at hsn;omega
   subst hsn
   repeat (first | (apply wo_mo;apply bi_ (sz:=1) (vs:=[.pointer (some ⟨sb,0,none⟩)]);exact rfl;exact .cons rfl .nil;exact rfl;(intro v hv;cases (List.mem_singleton.1 hv);exact rfl);omega;exact trivial) | (refine wR ?_;try simp only [oS]) | refine ba_ ?_ | refine wM ?_ | refine wD ?_ | refine wL ?_)
   rintro v' L' ⟨nb,rfl,rfl⟩
   repeat (first | (apply wo_mo;apply cf_ (sz:=1) (new:=[.pointer (some ⟨sb,0,none⟩)]);exact rfl;exact rfl;exact rfl;exact rfl;exact (.there (.there (.there (.there (.there .here)))));exact rfl;exact .inr ⟨_,_,rfl,Rds.all .here⟩;(intro v hv;cases (List.mem_singleton.1 hv);exact rfl);(simp only [cj_];omega);exact trivial))
   rintro v' L' rfl
   refine cn_ (bp_ .here (bg_ (by omega))) ?_
   rintro ⟨ua,un,uc,rfl,hun,_⟩
   repeat (first | refine wS ?_ | (refine wR ?_;try simp only [oS]) | refine ba_ ?_ | refine wM ?_ | refine wD ?_ | refine wadd ?_)
   have hseats:fg_ g (ids++[⟨sb,cs,ct,ce⟩]) (qs++[(ts[j].ini s).2])=fg_ g ids qs++[seatC g ⟨sb,cs,ct,ce⟩ (ts[j].ini s).2]:=by
    unfold fg_;rw [List.zipWith_append (by omega)];rfl
   have hseatS:fy_ (ids++[⟨sb,cs,ct,ce⟩]) (qs++[(ts[j].ini s).2])=fy_ ids qs++[seatS ⟨sb,cs,ct,ce⟩ (ts[j].ini s).2]:=by
    unfold fy_;rw [List.zipWith_append (by omega)];rfl
   refine dv_ (B:=mT) (I:=ty_ ts s0 wg pb rb (.slice oa order.length oc) (.slice (some ⟨tb,to,none⟩) ts.length tc) (shpC wg 144 2::F)) (R:=fun i'=>ts.length-i'.1<ts.length-j) (j+1,(ts[j].ini s).1,qs++[(ts[j].ini s).2],ids++[⟨sb,cs,ct,ce⟩],.slice ua un uc) (by show ts.length-(j+1)<ts.length-j;omega) ⟨by show j+1≤_;omega,by show (ids++[_]).length=j+1;simp;omega,?_⟩ ?_ (fun h st=>?_) ?_
   ·show dz_ (ts.take (j+1)) s0=_
    rw [List.take_succ_eq_append_getElem hlt,vv_,hst]
   ·exact ⟨rfl,rfl,rfl,rfl,rfl,rfl,rfl,rfl,trivial⟩
   ·have s1:Star (seatR sb cs ct ce::arr sb 3 (lastC ((g.plan (ts[j].ini s).2).map (·.1)))::all (fg_ g ids qs)::g.U (ts[j].ini s).1::arr pb 0 [.slice ua un uc,.slice none 0 0,.slice none 0 0]::vec 1 (.slice ua un uc) (ptrs ids++[.pointer (some ⟨sb,0,none⟩)])::all ((ts.drop (j+1)).map Thr.M)::arr rb 0 [.slice none 0 0,.slice none 0 0]::shpC wg 144 2::F) h:=Ent.star (.take (.there (.there (.there .here))) (.take (.there (.there (.there .here))) (.take (.there (.there (.there (.there .here)))) (.take (.there (.there .here)) (.take (.there (.there .here)) (.take .here (.drop .refl))))))) st
    have s2:=jz_ (c:=seatC g ⟨sb,cs,ct,ce⟩ (ts[j].ini s).2) (bv_ (M:=[_,_]) s1)
    rw [← hseats] at s2
    have e3:ptrs ids++[.pointer (some ⟨sb,0,none⟩)]=ptrs (ids++[⟨sb,cs,ct,ce⟩]):=by simp [ptrs]
    rw [e3] at s2
    exact Ent.star (.take (.there .here) (.take (.there .here) (.take (.there .here) (.take .here .refl)))) s2
   ·show gx g wg (fy_ (ids++[_]) (qs++[_])) _ _ _=_
    rw [hseatS]
    simp only [List.length_append,List.length_singleton]
    rfl
 ·obtain rfl:j=ts.length:=by omega
  rw [List.take_length] at hst
  rw [hsl]
  repeat (first | refine wlssF ?_ | refine bb_ ?_ | (refine wR ?_;try simp only [oS]) | refine ba_ ?_ | refine wM ?_ | refine wE ?_ | refine wF ?_ | refine bf_ ?_ | refine cu_ ?_)
  refine di_ (playL g pb ss (.slice none 0 0) (.slice none 0 0) ids (⟨s,qs,[]⟩:PS g) (arr rb 0 [.slice none 0 0,.slice none 0 0]::shpC wg 144 2::F)) (fun h st=>Ent.star (M:=playL g pb ss (.slice none 0 0) (.slice none 0 0) ids (⟨s,qs,[]⟩:PS g) (arr rb 0 [.slice none 0 0,.slice none 0 0]::shpC wg 144 2::F)) (.take (.there .here) (.take (.there .here) (.take (.there .here) (.take .here (.take .here (.drop .refl)))))) (dp_ (sz:=3) st)) ?_
  refine de_ (bnd (⟨s,qs,[]⟩:PS g) order ids wg pb rb (.slice oa order.length oc) ss (arr rb 0 [.slice none 0 0,.slice none 0 0]::shpC wg 144 2::F)) (fun i=>order.length-i.1) (0,.slice none 0 0) (Nat.zero_le _) ⟨rfl,rfl,rfl,rfl,rfl,rfl,trivial⟩ .refl rfl ?_
  have hI1:I (⟨s,qs,[]⟩:PS g):=by rw [hst] at hI0;exact hI0
  rintro ⟨i,tsv⟩ hi
  replace hi:i≤order.length:=hi
  have hpl:ids.length=(ordF (⟨s,qs,[]⟩:PS g) (order.take i)).qs.length:=by rw [cbs];show ids.length=qs.length;omega
  have hple:=chk (order.take i) (⟨s,qs,[]⟩:PS g) (Nat.zero_le _)
  simp only [bnd]
  by_cases hlt2:i<order.length
  ·obtain ⟨ob,oo,rfl,hrd⟩:=hro.rds (by omega)
   have hri:=hrd i (.int .i64 order[i]) (by rw [List.getElem?_map,List.getElem?_eq_getElem hlt2];rfl)
   repeat (first | (apply wo_po;apply cm_;exact rfl;exact rfl;omega;exact gY) | (apply wo_po;apply bc_;exact rfl;exact .there (.there (.there (.there (.there (.there (.there hri))))));exact trivial) | refine wlssT ?_ | refine bb_ ?_ | (refine wR ?_;try simp only [oS]) | refine ba_ ?_ | refine wM ?_ | refine wA ?_ | refine wT ?_ | refine bk_ ?_ | refine bf_ ?_)
   refine bo_ (.cons rfl (.cons rfl .nil)) trivial (bgn hpl hple (hIo _ (hIord _ _ hI1))) ?_
   rintro v' L' x' ⟨ts',rfl,rfl,rfl⟩
   repeat (first | (refine wR ?_;try simp only [oS]) | refine ba_ ?_ | refine wM ?_ | refine wadd ?_)
   have htk:(takeF (ordF (⟨s,qs,[]⟩:PS g) (order.take i)) order[i]).1=ordF (⟨s,qs,[]⟩:PS g) (order.take (i+1)):=by
    rw [List.take_succ_eq_append_getElem hlt2,btt]
   rw [htk]
   refine dr_ (B:=mT) (I:=bnd (⟨s,qs,[]⟩:PS g) order ids wg pb rb (.slice (some ⟨ob,oo,none⟩) order.length oc) ss (arr rb 0 [.slice none 0 0,.slice none 0 0]::shpC wg 144 2::F)) (R:=fun i'=>order.length-i'.1<order.length-i) (i+1,ts') (by show order.length-(i+1)<order.length-i;omega) (show i+1≤order.length by omega) ?_ .refl rfl
   exact ⟨rfl,rfl,rfl,rfl,rfl,rfl,trivial⟩
  ·obtain rfl:i=order.length:=by omega
   rw [List.take_length] at hpl hple ⊢
   obtain ⟨p1,hp1⟩:∃ p1,ordF (⟨s,qs,[]⟩:PS g) order=p1:=⟨_,rfl⟩
   rw [hp1] at hpl hple ⊢
   repeat (first | refine wlssF ?_ | refine bb_ ?_ | (refine wR ?_;try simp only [oS]) | refine ba_ ?_ | refine wA ?_ | refine wF ?_ | refine bf_ ?_ | refine cu_ ?_)
   refine de_ (bdc I p1 ids wg pb rb ss (arr rb 0 [.slice none 0 0,.slice none 0 0]::shpC wg 144 2::F)) (fun i=>if i.2.2.2=true then i.1+1 else 0) (16385,p1,tsv,true) ⟨by rw [← hp1];exact hIord _ _ hI1,rfl,hple,by simp only [if_true];exact ⟨trivial,by omega⟩⟩ ⟨rfl,rfl,rfl,rfl,trivial⟩ .refl rfl ?_
   rintro ⟨n,p,tv2,more⟩ ⟨hIp,hq1,hq2,hq3⟩
   simp only at hIp hq1 hq2 hq3
   simp only [bdc]
   cases more with
   | true =>
    simp only [if_true] at hq3
    obtain ⟨n,rfl⟩:∃ m,n=m+1:=⟨n-1,by omega⟩
    have hpq:p.qs.length=ids.length:=by omega
    refine dg_ (bp_ (.there (.there .here)) (bg_ (by omega))) ?_
    rintro ⟨sa,sn,sc,rfl,hsn,_⟩
    have hsn:sn=ids.length:=by simp [ptrs] at hsn;omega
    subst hsn
    repeat (first | refine bb_ ?_ | (refine wR ?_;try simp only [oS]) | refine ba_ ?_ | refine wM ?_ | refine wA ?_ | refine wD ?_ | refine wL ?_ | refine wE ?_ | refine wT ?_ | refine bk_ ?_ | refine bf_ ?_)
    refine de_ (wr_ p ids wg pb rb (.slice sa ids.length sc) (arr rb 0 [.slice none 0 0,.slice none 0 0]::shpC wg 144 2::F)) (fun i=>ids.length-i.1) (0,tv2) (Nat.zero_le _) ⟨rfl,rfl,rfl,rfl,rfl,rfl,trivial⟩ .refl rfl ?_
    rintro ⟨k,tv3⟩ hk
    replace hk:k≤ids.length:=hk
    simp only [wr_]
    by_cases hlt3:k<ids.length
    ·repeat (first | refine wlssT ?_ | refine bb_ ?_ | (refine wR ?_;try simp only [oS]) | refine ba_ ?_ | refine wM ?_ | refine wA ?_ | refine wT ?_ | refine bk_ ?_ | refine bf_ ?_)
     refine bo_ (.cons rfl (.cons rfl .nil)) trivial (bgn (by rw [sb_];omega) (vg_ hq2 k) (hIo _ (hIrnd _ _ hIp))) ?_
     rintro v' L' x' ⟨ts',rfl,rfl,rfl⟩
     have hnx:dc_ p (k+1)=((takeF (dc_ p k).1 k).1,(takeF (dc_ p k).1 k).2||(dc_ p k).2):=rfl
     have hr1:(dc_ p (k+1)).1=(takeF (dc_ p k).1 k).1:=rfl
     obtain ⟨b,hb⟩:∃ b,(takeF (dc_ p k).1 k).2=b:=⟨_,rfl⟩
     rw [hb,← hr1]
     cases b with
     | true =>
      repeat (first | (refine wR ?_;try simp only [oS]) | refine ba_ ?_ | refine wM ?_ | refine wA ?_ | (apply wo_no;exact rfl) | refine wK ?_ | refine wadd ?_)
      refine dr_ (B:=mT) (I:=wr_ p ids wg pb rb (.slice sa ids.length sc) (arr rb 0 [.slice none 0 0,.slice none 0 0]::shpC wg 144 2::F)) (R:=fun i'=>ids.length-i'.1<ids.length-k) (k+1,ts') (by show ids.length-(k+1)<ids.length-k;omega) (show k+1≤ids.length by omega) ?_ .refl rfl
      exact ⟨rfl,rfl,rfl,by rw [hnx,hb];rfl,rfl,rfl,trivial⟩
     | false =>
      repeat (first | (refine wR ?_;try simp only [oS]) | refine ba_ ?_ | refine wM ?_ | refine wA ?_ | refine wJ ?_ | refine wadd ?_)
      refine dr_ (B:=mT) (I:=wr_ p ids wg pb rb (.slice sa ids.length sc) (arr rb 0 [.slice none 0 0,.slice none 0 0]::shpC wg 144 2::F)) (R:=fun i'=>ids.length-i'.1<ids.length-k) (k+1,ts') (by show ids.length-(k+1)<ids.length-k;omega) (show k+1≤ids.length by omega) ?_ .refl rfl
      exact ⟨rfl,rfl,rfl,by rw [hnx,hb];rfl,rfl,rfl,trivial⟩
    ·obtain rfl:k=ids.length:=by omega
     repeat (first | refine wlssF ?_ | refine bb_ ?_ | (refine wR ?_;try simp only [oS]) | refine ba_ ?_ | refine wF ?_ | refine cu_ ?_)
     have hg:=pf_ p ids.length
     have hle3:=vg_ hq2 ids.length
     have hrest:restF (n+1) p=if (dc_ p ids.length).2=true then restF n (dc_ p ids.length).1 else (dc_ p ids.length).1:=by
      show (if (dc_ p p.qs.length).2=true then restF n (dc_ p p.qs.length).1 else (dc_ p p.qs.length).1)=_
      rw [hpq]
     refine dr_ (B:=mT) (I:=bdc I p1 ids wg pb rb (.slice sa ids.length sc) (arr rb 0 [.slice none 0 0,.slice none 0 0]::shpC wg 144 2::F)) (R:=fun i'=>(if i'.2.2.2=true then i'.1+1 else 0)<(if true=true then (n+1)+1 else 0)) (n,(dc_ p ids.length).1,tv3,(dc_ p ids.length).2) ?_ ⟨hIrnd _ _ hIp,by show (dc_ p ids.length).1.qs.length=_;rw [sb_];exact hq1,hle3,?_⟩ ?_ .refl rfl
     ·show (if (dc_ p ids.length).2=true then n+1 else 0)<(if true=true then (n+1)+1 else 0)
      simp only [if_true]
      split <;> omega
     ·simp only
      rw [hrest] at hq3
      cases hb:(dc_ p ids.length).2 with
      | true=>rw [hb] at hq3 hg;simp only [if_true] at hq3 hg ⊢;exact ⟨hq3.1,by omega⟩
      | false=>rw [hb] at hq3;simpa using hq3.1
     ·exact ⟨rfl,rfl,rfl,rfl,trivial⟩
   | false =>
    simp only [Bool.false_eq_true,if_false] at hq3
    have hplay:playF ts s0 order=p:=by rw [hq3,← hp1];unfold playF;rw [hst]
    rw [hplay] at hQ
    have hpq:p.qs.length=ids.length:=by omega
    refine dg_ (bp_ (.there (.there .here)) (bg_ (by omega))) ?_
    rintro ⟨sa,sn,sc,rfl,hsn,_,hnz,hy⟩
    have hsn:sn=ids.length:=by simp [ptrs] at hsn;omega
    subst hsn
    cases sa with
    | none=>have:=hnz rfl;omega
    | some ad =>
    obtain ⟨sb,so,sp⟩:=ad
    have:=hy _ rfl
    simp only [Addr.mk.injEq,true_and] at this
    subst this
    repeat (first | refine bb_ ?_ | (refine wR ?_;try simp only [oS]) | refine ba_ ?_ | refine wM ?_ | refine wD ?_ | refine wL ?_ | refine wE ?_ | refine wF ?_ | refine bf_ ?_ | refine cu_ ?_)
    refine di_ (vec 1 (.slice none 0 0) (cutC (cutN g p.qs 0))::arr pb 0 [.slice (some ⟨sb,so,none⟩) ids.length sc,tv2,.slice none 0 0]::vec 1 (.slice (some ⟨sb,so,none⟩) ids.length sc) (ptrs ids)::vec 3 tv2 (trCP p.tr)::all (fg_ g ids p.qs)::g.U p.s::arr rb 0 [.slice none 0 0,.slice none 0 0]::shpC wg 144 2::F) (fun h st=>dp_ (Ent.star (.take (.there .here) (.take (.there .here) (.take (.there .here) (.take (.there .here) (.take .here .refl))))) st)) ?_
    refine de_ (sg_ p ids wg pb rb (.slice (some ⟨sb,so,none⟩) ids.length sc) tv2 (arr rb 0 [.slice none 0 0,.slice none 0 0]::shpC wg 144 2::F)) (fun i=>ids.length-i.1) (0,.slice none 0 0) (Nat.zero_le _) ⟨rfl,rfl,rfl,rfl,rfl,rfl,trivial⟩ .refl (by simp only [sg_];rw [bmt]) ?_
    rintro ⟨k,cv⟩ hk
    replace hk:k≤ids.length:=hk
    simp only [sg_]
    by_cases hlt3:k<ids.length
    ·have hi:ids[k]?=some ids[k]:=List.getElem?_eq_getElem hlt3
     have hq:p.qs[k]?=some (p.qs[k]'(by omega)):=List.getElem?_eq_getElem _
     obtain ⟨i,hie⟩:∃ i,ids[k]=i:=⟨_,rfl⟩
     obtain ⟨q,hqe⟩:∃ q,(p.qs[k]'(by omega))=q:=⟨_,rfl⟩
     rw [hie] at hi
     rw [hqe] at hq
     let er:=all ((fg_ g ids p.qs).eraseIdx k)
     refine di_ (seatR i.sb i.says i.turn i.fin::arr i.sb 3 (lastQ g q)::er::vec 1 cv (cutC (cutN g p.qs k))::arr pb 0 [.slice (some ⟨sb,so,none⟩) ids.length sc,tv2,cv]::vec 1 (.slice (some ⟨sb,so,none⟩) ids.length sc) (ptrs ids)::vec 3 tv2 (trCP p.tr)::g.U p.s::arr rb 0 [.slice none 0 0,.slice none 0 0]::shpC wg 144 2::F) (fun h st=>vf_ hi hq (((.there (.there (.there (.there .here)))):Has (_::_::_::_::all (fg_ g ids p.qs)::_) _ _).star st)) ?_
     have hback:∀ {cv':Value} {cl:List Value} h,Star (seatR i.sb i.says i.turn i.fin::arr i.sb 3 (lastQ g q)::er::vec 1 cv' cl::arr pb 0 [.slice (some ⟨sb,so,none⟩) ids.length sc,tv2,cv']::vec 1 (.slice (some ⟨sb,so,none⟩) ids.length sc) (ptrs ids)::vec 3 tv2 (trCP p.tr)::g.U p.s::arr rb 0 [.slice none 0 0,.slice none 0 0]::shpC wg 144 2::F) h →
       Star (vec 1 cv' cl::arr pb 0 [.slice (some ⟨sb,so,none⟩) ids.length sc,tv2,cv']::vec 1 (.slice (some ⟨sb,so,none⟩) ids.length sc) (ptrs ids)::vec 3 tv2 (trCP p.tr)::all (fg_ g ids p.qs)::g.U p.s::arr rb 0 [.slice none 0 0,.slice none 0 0]::shpC wg 144 2::F) h:=fun h st=>by
      have s1:=xq_ (q':=q) hi hq st
      rw [gf_ hq] at s1
      exact Ent.star (.take (.there .here) (.take (.there .here) (.take (.there .here) (.take (.there .here) (.take .here .refl))))) s1
     have hcl:(cutN g p.qs k).length≤k:=by have:=List.length_filter_le (fun k=>((p.qs[k]?).bind g.plan).isSome) (List.range k);rw [List.length_range] at this;exact this
     have hget:(shutS ids p.qs k)[k]?=some (⟨i.says,i.turn,i.fin,.said q⟩:Seat g.σ g.θ):=by rw [ma_ hi hq,if_neg (by omega)];rfl
     have hsl2:ids.length=(shutS ids p.qs k).length:=(px_ hpq.symm).symm
     have rs:∀ {a b c d e:HProp} {M:List HProp},Rd (a::b::c::d::e::vec 1 (.slice (some ⟨sb,so,none⟩) ids.length sc) (ptrs ids)::M) sb (so+k) (.pointer (some ⟨i.sb,0,none⟩)):=df_ (cs:=ptrs ids) (.there (.there (.there (.there (.there .here))))) (by simp [ptrs,hi])
     refine dg_ (bp_ (.there (.there (.there .here))) (bg_ (by omega))) ?_
     rintro ⟨ca,cn,cc,rfl,hcn,_⟩
     have hcn:cn=(cutN g p.qs k).length:=by simp [cutC] at hcn;omega
     subst hcn
     cases hpl2:g.plan q with
     | none =>
      have hlq:lastQ g q=[.int .u8 0,.int .i64 0,.bool true]:=by unfold lastQ;rw [hpl2];rfl
      have hcut:cutN g p.qs (k+1)=cutN g p.qs k:=by rw [bcc,hq];simp [hpl2]
      rw [hlq] at hback ⊢
      have rl:∀ {a:HProp} {M:List HProp},Rd (a::arr i.sb 3 [.int .u8 0,.int .i64 0,.bool true]::M) i.sb 5 (.bool true):=.there (Rd.row (k:=2) rfl rfl)
      have re:∀ {M:List HProp},Rd (seatR i.sb i.says i.turn i.fin::M) i.sb 1 (.chan (some i.fin)):=Rd.fro (k:=1) rfl rfl
      repeat (first | (apply wo_po;apply cm_;exact rfl;exact rfl;omega;exact gY) | (apply wo_po;apply bc_;exact rfl;(first | exact rs | exact rl | exact re);exact trivial) | refine wlssT ?_ | refine bb_ ?_ | (refine wR ?_;try simp only [oS]) | refine ba_ ?_ | refine wM ?_ | refine wA ?_ | refine wN ?_ | refine wD ?_ | (apply wo_po;apply ge_;exact rfl;exact gY) | refine wT ?_ | refine wF ?_ | refine bk_ ?_ | refine bf_ ?_)
      refine bqj (X:=⟨g,wg,shutS ids p.qs k,some p.s,16384-p.tr.length,ids.length,false,.play⟩) (j:=k) (c:=⟨i.says,i.turn,i.fin,.said q⟩) (q0:=q) rfl rfl rfl hsl2 rfl hget rfl trivial (by decide) ?_
      repeat (first | (refine wR ?_;try simp only [oS]) | refine ba_ ?_ | refine wM ?_ | refine wadd ?_)
      refine dv_ (B:=mT) (I:=sg_ p ids wg pb rb (.slice (some ⟨sb,so,none⟩) ids.length sc) tv2 (arr rb 0 [.slice none 0 0,.slice none 0 0]::shpC wg 144 2::F)) (R:=fun i'=>ids.length-i'.1<ids.length-k) (k+1,.slice ca (cutN g p.qs k).length cc) (by show ids.length-(k+1)<ids.length-k;omega) (show k+1≤ids.length by omega) ?_ (fun h st=>?_) ?_
      ·exact ⟨rfl,rfl,rfl,rfl,rfl,rfl,trivial⟩
      ·show Star (vec 1 _ (cutC (cutN g p.qs (k+1)))::_) h
       rw [hcut]
       exact hback h st
      ·simp only [sg_]
       rw [← xn_ hi hq]
     | some mf =>
      obtain ⟨m,f⟩:=mf
      have hlq:lastQ g q=[.int .u8 m.1,.int .i64 m.2,.bool false]:=by unfold lastQ;rw [hpl2];rfl
      have hcut:cutN g p.qs (k+1)=cutN g p.qs k++[k]:=by rw [bcc,hq];simp [hpl2]
      rw [hlq] at hback ⊢
      have rl:∀ {a:HProp} {M:List HProp},Rd (a::arr i.sb 3 [.int .u8 m.1,.int .i64 m.2,.bool false]::M) i.sb 5 (.bool false):=.there (Rd.row (k:=2) rfl rfl)
      have re:∀ {a b:HProp} {M:List HProp},Rd (a::b::seatR i.sb i.says i.turn i.fin::M) i.sb 1 (.chan (some i.fin)):=.there (.there (Rd.fro (k:=1) rfl rfl))
      repeat (first | (apply wo_po;apply cm_;exact rfl;exact rfl;omega;exact gY) | (apply wo_po;apply bc_;exact rfl;(first | exact rs | exact rl);exact trivial) | (apply wo_mo;apply bi_ (sz:=1) (vs:=[.int .i64 (k:Nat)]);exact rfl;exact .cons rfl .nil;exact rfl;(intro v hv;cases (List.mem_singleton.1 hv);exact rfl);omega;exact trivial) | refine wlssT ?_ | refine bb_ ?_ | (refine wR ?_;try simp only [oS]) | refine ba_ ?_ | refine wM ?_ | refine wA ?_ | refine wN ?_ | refine wD ?_ | (apply wo_po;apply ge_;exact rfl;exact gY) | refine wL ?_ | refine wT ?_ | refine bk_ ?_ | refine bf_ ?_)
      rintro v' L' ⟨nb,rfl,rfl⟩
      repeat (first | (apply wo_mo;apply cf_ (sz:=1) (new:=[.int .i64 (k:Nat)]);exact rfl;exact rfl;exact rfl;exact rfl;exact (.there (.there (.there (.there .here))));exact rfl;exact .inr ⟨_,_,rfl,Rds.all .here⟩;(intro v hv;cases (List.mem_singleton.1 hv);exact rfl);(simp only [cj_];omega);exact trivial))
      rintro v' L' rfl
      refine cn_ (bp_ .here (bg_ (by omega))) ?_
      rintro ⟨ua,un,uc,rfl,hun,_⟩
      repeat (first | refine wS ?_ | (apply wo_po;apply bc_;exact rfl;exact re;exact trivial) | (refine wR ?_;try simp only [oS]) | refine ba_ ?_ | refine wM ?_ | refine wN ?_ | refine wD ?_)
      refine bqj (X:=⟨g,wg,shutS ids p.qs k,some p.s,16384-p.tr.length,ids.length,false,.play⟩) (j:=k) (c:=⟨i.says,i.turn,i.fin,.said q⟩) (q0:=q) rfl rfl rfl hsl2 rfl hget rfl trivial (by decide) ?_
      repeat (first | (refine wR ?_;try simp only [oS]) | refine ba_ ?_ | refine wM ?_ | refine wadd ?_)
      refine dv_ (B:=mT) (I:=sg_ p ids wg pb rb (.slice (some ⟨sb,so,none⟩) ids.length sc) tv2 (arr rb 0 [.slice none 0 0,.slice none 0 0]::shpC wg 144 2::F)) (R:=fun i'=>ids.length-i'.1<ids.length-k) (k+1,.slice ua un uc) (by show ids.length-(k+1)<ids.length-k;omega) (show k+1≤ids.length by omega) ?_ (fun h st=>?_) ?_
      ·exact ⟨rfl,rfl,rfl,rfl,rfl,rfl,trivial⟩
      ·show Star (vec 1 _ (cutC (cutN g p.qs (k+1)))::_) h
       have e4:cutC (cutN g p.qs (k+1))=cutC (cutN g p.qs k)++[.int .i64 (k:Nat)]:=by rw [hcut];simp [cutC]
       rw [e4]
       exact hback h (Ent.star (.take (.there (.there .here)) (.take (.there (.there .here)) (.take (.there (.there .here)) (.take .here (.drop .refl))))) st)
      ·simp only [sg_]
       rw [← xn_ hi hq]
    ·obtain rfl:k=ids.length:=by omega
     repeat (first | refine wlssF ?_ | refine bb_ ?_ | (refine wR ?_;try simp only [oS]) | refine ba_ ?_ | refine wF ?_ | refine cu_ ?_)
     refine bo_ (.cons rfl .nil) trivial (bsp (X:=⟨g,wg,shutS ids p.qs ids.length,some p.s,16384-p.tr.length,ids.length,false,.play⟩) rfl (by show ids.length<1000;omega) (px_ hpq.symm).symm (bcv hpq.symm) rfl (fun h st=>cbb (.there (.there (.there (.there (.there (.there (.there .here))))))) st)) ?_
     rintro v' L' x' ⟨rfl,rfl,rfl⟩
     rw [show (GX.seats ⟨g,wg,shutS ids p.qs ids.length,some p.s,16384-p.tr.length,ids.length,false,.play⟩).map Seat.fins=p.qs.map g.Fin from btc hpq.symm]
     repeat (first | (apply wo_po;apply cc_ (vs:=[tv2,cv]);exact rfl;exact rfl;exact Rds.row (k:=1) (.there (.there .here)) (by intro i v hv;match i,hv with | 0,hv=>exact hv | 1,hv=>exact hv);exact trivial) | refine bb_ ?_ | (refine wR ?_;try simp only [oS]) | refine ba_ ?_ | refine wD ?_)
     refine cn_ (bp_ (.there .here) (bg_ (by omega))) ?_
     rintro ⟨ca,cn,cc,rfl,_⟩
     refine cn_ (bp_ (.there (.there (.there (.there .here)))) (bg_ (by omega))) ?_
     rintro ⟨ta2,tn2,tc2,rfl,_⟩
     repeat (first | (apply wo_pm;apply bw_ (c:=0) (k:=0) (a:=0) (vs:=[.slice none 0 0,.slice none 0 0]);exact rfl;exact rfl;exact rfl;(intro w hw;simp [Value.cells] at hw;rcases hw with rfl | rfl <;> rfl);exact rfl;exact Nat.le_refl 2;exact (.there (.there (.there (.there (.there (.there (.there .here)))))));exact trivial) | refine ba_ ?_ | refine wA ?_ | refine bn_ ?_)
     refine cp_ (rs:=[.cell 4 87,.tmp 5]) Try.func30 Try.results30 hQ (.inl rfl) (.cons (.cell (vs:=[.slice ta2 tn2 tc2,.slice ca cn cc]) rfl rfl (Rds.all (.there (.there (.there (.there (.there (.there (.there .here))))))))) (.cons (.tmp rfl) .nil)) ?_
     refine ⟨_,_,rfl,rfl,fun h st=>?_⟩
     rw [← hids]
     exact Ent.star (.take (.there (.there (.there (.there .here)))) (.take (.there .here) (.take (.there (.there (.there (.there .here)))) (.take .here (.drop (.drop (.drop (.drop (.drop .refl))))))))) st
end
end
end Go.Proofs.Ytnnpdmhmpgmpnaa
namespace Go.PB.Mach
section
structure In where
 op:Nat
 on:Nat:=0
 a:Nat:=0
 b:Nat:=0
 c:Nat:=0
 d:Nat:=0
 n:Nat:=0
structure Cl where
 code:List In
 data:List Nat:=[]
structure Wd where
 words:List (List Nat)
 nl:Nat
structure Th where
 calls:List Cl
 call:Nat:=0
 pc:Nat:=0
 r:Nat→Nat:=fun _=>0
 ans:List (Bool × List Nat):=[]
 over:Bool:=false
def fin:In:={ op:=23 }
def Th.cl (t:Th):Cl:=t.calls.getD t.call { code:=[] }
def Th.next (t:Th):In:=t.cl.code.getD t.pc fin
def Th.put (t:Th) (i v:Nat):Th:={ t with r:=upd t.r i (v%18446744073709551616) }
def Th.tell (t:Th) (v:Nat):Th:={ t with ans:=t.ans.modify t.call fun y=>(y.1,y.2++[v]) }
structure Wd.ok (w:Wd):Prop where
 n:w.words.length<1000000
 nl:w.nl<1000000
 len:∀ l∈w.words,l.length<1000000
 lt:∀ l∈w.words,∀ v∈l,v<18446744073709551616
def own (t0:Th) (x:In):Th :=
 let t:={ t0 with pc:=t0.pc+1 }
 match x.op with
 | 6=>t.put x.a x.n
 | 7=>t.put x.a (t.r x.b)
 | 8=>t.put x.a (t.r x.b+t.r x.c+x.n)
 | 9=>t.put x.a (t.r x.b+18446744073709551616-t.r x.c)
 | 10=>t.put x.a (t.r x.b*t.r x.c)
 | 11=>t.put x.a (if t.r x.c=0 then 0 else t.r x.b/t.r x.c)
 | 12=>t.put x.a (t.r x.b &&& t.r x.c)
 | 13=>t.put x.a (t.r x.b ||| t.r x.c)
 | 14=>t.put x.a (t.r x.b*2^x.n)
 | 15=>t.put x.a (t.r x.b/2^x.n)
 | 16=>t.put x.a (max (t.r x.b) (t.r x.c))
 | 17=>t.put x.a (t.cl.data.getD ((t.r x.b+x.n)%18446744073709551616) 0)
 | 18=>{ t with pc:=x.n }
 | 19=>if t.r x.a=t.r x.b then { t with pc:=x.n } else t
 | 20=>if t.r x.a<t.r x.b then { t with pc:=x.n } else t
 | 21=>if 9223372036854775808≤t.r x.a then { t with pc:=x.n } else t
 | 22=>t.tell (t.r x.a)
 | _=>t
def told (op:Nat):Bool:=1≤op&&op≤5
def Th.begun (t:Th):Th:=if t.ans.length=t.call then { t with ans:=t.ans++[(false,[])] } else t
def Th.done (t:Th):Th:={ t with ans:=t.ans.modify t.call fun y=>(true,y.2),call:=t.call+1,pc:=0,r:=fun _=>0 }
def onF:Nat→Th→Option Th
 | 0,_=>none
 | f+1,t =>
  if t.over=true then some t
  else if t.calls.length≤t.call then some { t with over:=true }
  else if told t.begun.next.op=true then some t.begun
  else if t.begun.next.op=23 then onF f t.begun.done
  else onF f (own t.begun t.begun.next)
def Th.place (t:Th):Nat:=(t.r t.next.b+t.next.n)%18446744073709551616
def op1 (x:In) (l:List Nat) (p:Nat) (r:Nat→Nat):List Nat × (Nat→Nat) :=
 let v:=l.getD p 0
 match x.op with
 | 1=>(l,upd r x.a v)
 | 2=>(l.set p (r x.a),r)
 | 3=>(l.set p ((v+r x.c)%18446744073709551616),upd r x.a ((v+r x.c)%18446744073709551616))
 | 4=>(l.set p (r x.c),upd r x.a v)
 | _=>if v=r x.c then (l.set p (r x.d),upd r x.a 1) else (l,upd r x.a 0)
def Wd.row (w:Wd) (on:Nat):List Nat:=w.words.getD on []
def opF (f:Nat) (w:Wd) (t:Th):Option (Wd × Th) :=
 if t.place<(w.row t.next.on).length then
  let y:=op1 t.next (w.row t.next.on) t.place t.r
  (onF f { t with pc:=t.pc+1,r:=y.2 }).map fun t'=>({ w with words:=w.words.set t.next.on y.1 },t')
 else none
def Th.mark (t:Th):Nat × Nat:=(t.next.op,t.place)
structure St where
 w:Wd
 l:List Th
 tr:List (Nat × Nat × Nat):=[]
def turn (f:Nat) (s:St) (k:Nat):Option St :=
 match s.l[k]? with
 | some t=>(opF f s.w t).map fun y=>⟨y.1,s.l.set k y.2,s.tr++[(k,t.mark)]⟩
 | none=>some s
def may (s:St) (k:Nat):Bool:=s.tr.length<16384&&(match s.l[k]? with | some t=>!t.over | none=>false)
def byOrder (f:Nat):St→List (Option Nat)→Option St
 | s,[]=>some s
 | s,none::o=>byOrder f s o
 | s,some k::o=>if may s k=true then (turn f s k).bind fun s=>byOrder f s o else byOrder f s o
def round (f:Nat):Nat→Nat→St→Bool→Option (St × Bool)
 | 0,_,s,q=>some (s,q)
 | m+1,k,s,q=>if may s k=true then (turn f s k).bind fun s=>round f m (k+1) s true else round f m (k+1) s q
def rounds (f:Nat):Nat→St→Option St
 | 0,_=>none
 | g+1,s=>(round f s.l.length 0 s false).bind fun y=>if y.2=true then rounds f g y.1 else some y.1
def begin_ (f:Nat):List Th→Option (List Th)
 | []=>some []
 | t::l=>(onF f t).bind fun t=>(begin_ f l).map fun l=>t::l
def play (f g:Nat) (w:Wd) (o:List (Option Nat)) (l:List (List Cl)):Option St :=
 (begin_ f (l.map fun c=>{ calls:=c })).bind fun l=>(byOrder f ⟨w,l,[]⟩ o).bind fun s=>rounds f g s
def In.ok (x:In):Bool:=1≤x.op&&x.op≤23&&x.a<24&&x.b<24&&x.c<24&&x.d<24&&x.on<1000&&x.n<18446744073709551616&&(!(18≤x.op&&x.op≤21)||x.n<1000000)&&(!(x.op=17)||!(x.a=x.b))&&(!(x.op=14||x.op=15)||x.n<64)
def Cl.ok (c:Cl):Bool:=c.code.all In.ok&&c.data.all (fun v=>v<18446744073709551616)&&c.code.length<1000000&&c.data.length<1000000
end
end Go.PB.Mach
namespace Go.Proofs.Ytnnpdmhmpgmpnaa
open Go Go.PB
section
structure Wds where
 W:(Nat→Nat)→Mach.Wd
 un:Mach.Wd→(Nat→Nat)
 ok:(Nat→Nat)→Prop
 fu:Nat
 back:∀ f,W (un (W f))=W f
 okun:∀ f,ok f→ok (un (W f))
def mF (D:Wds) (q:Nat × Mach.Th) (f:Nat→Nat):(Nat→Nat) × (Nat × Mach.Th) :=
 match Mach.opF D.fu (D.W f) q.2 with
 | some y=>(D.un y.1,(q.1,y.2))
 | none=>(f,(q.1,{ q.2 with over:=true }))
def mkII (m:Nat × Nat):Int × Int:=(((m.1:Nat):Int),((m.2:Nat):Int))
def mPlan (D:Wds) (q:Nat × Mach.Th):Option ((Int × Int) × ((Nat→Nat)→(Nat→Nat) × (Nat × Mach.Th))) :=
 if q.2.over=true then none else some (mkII q.2.mark,mF D q)
def mG (D:Wds) (U:(Nat→Nat)→HProp) (Pv:Nat × Mach.Th→HProp):Game where
 σ:=Nat→Nat
 θ:=Nat × Mach.Th
 U:=U
 plan:=mPlan D
 ok:=D.ok
 Pv:=Pv
 Fin:=Pv
def GoodN (D:Wds):Nat→Mach.Th→Prop
 | 0,_=>True
 | n+1,t=>t.over=true∨t.over=false∧∀ f,D.ok f→∃ f' t',Mach.opF D.fu (D.W f) t=some (D.W f',t')∧D.ok f'∧GoodN D n t'
def GoodT (D:Wds) (t:Mach.Th):Prop:=∀ n,GoodN D n t
theorem GoodT.over {D:Wds} {t:Mach.Th} (h:t.over=true):GoodT D t
 | 0=>trivial
 | _+1=>.inl h
theorem GoodT.mk {D:Wds} {t:Mach.Th} (ho:t.over=false) (h:∀ f,D.ok f→∃ f' t',Mach.opF D.fu (D.W f) t=some (D.W f',t')∧D.ok f'∧GoodT D t'):GoodT D t
 | 0=>trivial
 | n+1=>.inr ⟨ho,fun f hf=>by
  obtain ⟨f',t',h1,h2,h3⟩:=h f hf
  exact ⟨f',t',h1,h2,h3 n⟩⟩
theorem GoodT.on {D:Wds} {t:Mach.Th} (g:GoodT D t) (ho:t.over=false):∀ f,D.ok f→∃ f' t',Mach.opF D.fu (D.W f) t=some (D.W f',t')∧D.ok f'∧GoodT D t':=by
 have at_:∀ n f,D.ok f→∃ f' t',Mach.opF D.fu (D.W f) t=some (D.W f',t')∧D.ok f'∧GoodN D n t':=fun n f hf=>by
  rcases g (n+1) with h | ⟨_,h⟩
  ·rw [h] at ho;cases ho
  ·exact h f hf
 intro f hf
 obtain ⟨f',t',h1,h2,_⟩:=at_ 0 f hf
 refine ⟨f',t',h1,h2,fun n=>?_⟩
 obtain ⟨g',u',e1,_,e3⟩:=at_ n f hf
 rw [h1] at e1
 simp only [Option.some.injEq,Prod.mk.injEq] at e1
 rw [e1.2]
 exact e3
section
variable {D:Wds} {U:(Nat→Nat)→HProp} {Pv:Nat × Mach.Th→HProp}
theorem bmk {g:Game} {p:PS g} {n:Nat} {q:g.θ} {m:Int × Int} {f:g.σ→g.σ × g.θ} (hq:p.qs[n]?=some q) (hp:g.plan q=some (m,f)) (h16:p.tr.length≠16384):takeF p n=(⟨(f p.s).1,p.qs.set n (f p.s).2,p.tr++[(n,m)]⟩,true):=by
 unfold takeF
 rw [if_neg (by omega),Int.toNat_natCast,hq]
 simp only [hp]
 rw [if_neg h16]
theorem bmm {g:Game} {p:PS g} {n:Nat} {q:g.θ} (hq:p.qs[n]?=some q) (hp:g.plan q=none):takeF p n=(p,false):=by
 unfold takeF
 rw [if_neg (by omega),Int.toNat_natCast,hq]
 simp only [hp]
structure Rel (p:PS (mG D U Pv)) (st:Mach.St):Prop where
 w:st.w=D.W p.s
 len:p.qs.length=st.l.length
 qs:∀ k:Nat,p.qs[k]?=(st.l[k]?).map fun t=>(k,t)
 tr:p.tr=st.tr.map fun e=>(e.1,mkII e.2)
 le:st.tr.length≤16384
 good:∀ t∈st.l,GoodT D t
 ok:D.ok p.s
theorem xi_ {p:PS (mG D U Pv)} {st:Mach.St} (h:Rel p st) (n:Nat):∃ st',(if Mach.may st n=true then Mach.turn D.fu st n else some st)=some st'∧Rel (takeF p n).1 st'∧(takeF p n).2=Mach.may st n∧st'.l.length=st.l.length:=by
 have hq:=h.qs n
 have htl:p.tr.length=st.tr.length:=by rw [h.tr];simp
 cases hl:st.l[n]? with
 | none =>
  rw [hl] at hq
  have hm:Mach.may st n=false:=by unfold Mach.may;rw [hl];simp
  have ht:takeF p n=(p,false):=by unfold takeF;rw [if_neg (by omega),Int.toNat_natCast,hq];rfl
  rw [hm,ht]
  exact ⟨st,rfl,h,rfl,rfl⟩
 | some t =>
  rw [hl] at hq
  have hmem:t∈st.l:=List.mem_of_getElem? hl
  by_cases ho:t.over=true
  ·have hm:Mach.may st n=false:=by unfold Mach.may;rw [hl];simp [ho]
   have hp:(mG D U Pv).plan (n,t)=none:=if_pos ho
   have ht:takeF p n=(p,false):=bmm hq hp
   rw [hm,ht]
   exact ⟨st,rfl,h,rfl,rfl⟩
  ·have ho':t.over=false:=by simpa using ho
   by_cases h16:st.tr.length=16384
   ·have hm:Mach.may st n=false:=by unfold Mach.may;rw [h16];simp
    have ht:takeF p n=(p,false):=by
     rcases vu_ p n with e | ⟨_,_,_,_,_,_,_,e,_⟩
     ·exact e
     ·omega
    rw [hm,ht]
    exact ⟨st,rfl,h,rfl,rfl⟩
   ·have hm:Mach.may st n=true:=by
     unfold Mach.may;rw [hl]
     have:st.tr.length<16384:=by have:=h.le;omega
     simp [ho',this]
    obtain ⟨f',t',hop,hok,hg⟩:=(h.good t hmem).on ho' p.s h.ok
    have hp:(mG D U Pv).plan (n,t)=some (mkII t.mark,mF D (n,t)):=if_neg ho
    have hmf:mF D (n,t) p.s=(D.un (D.W f'),(n,t')):=by
     unfold mF
     have e:Mach.opF D.fu (D.W p.s) t=some (D.W f',t'):=hop
     simp only [e]
    have ht:=bmk hq hp (by omega)
    have e1:((mF D (n,t):(mG D U Pv).σ→(mG D U Pv).σ × (mG D U Pv).θ) p.s)=(D.un (D.W f'),(n,t')):=hmf
    rw [e1] at ht
    have hturn:Mach.turn D.fu st n=some ⟨D.W f',st.l.set n t',st.tr++[(n,t.mark)]⟩:=by
     unfold Mach.turn
     rw [hl,h.w]
     simp only
     rw [hop];rfl
    have hn:n<st.l.length:=(List.getElem?_eq_some_iff.1 hl).1
    rw [if_pos hm,hm,ht,hturn]
    refine ⟨_,rfl,⟨(D.back f').symm,(by show ((show List (Nat × Mach.Th) from p.qs).set n (n,t')).length=(st.l.set n t').length;rw [List.length_set,List.length_set];exact h.len),fun k=>?_,by simp [h.tr],by simp;have:=h.le;omega,fun u hu=>?_,D.okun f' hok⟩,rfl,by simp⟩
    ·show ((show List (Nat × Mach.Th) from p.qs).set n (n,t'))[k]?=_
     rw [List.getElem?_set,List.getElem?_set]
     by_cases e:n=k
     ·subst e
      rw [if_pos rfl,if_pos rfl,if_pos (show n<(show List (Nat × Mach.Th) from p.qs).length from h.len▸hn),if_pos hn];rfl
     ·rw [if_neg e,if_neg e];exact h.qs k
    ·rcases List.mem_or_eq_of_mem_set hu with hu | rfl
     ·exact h.good u hu
     ·exact hg
theorem bdf:∀ (o:List Int) {p:PS (mG D U Pv)} {st:Mach.St},Rel p st→∃ st',Mach.byOrder D.fu st (o.map fun k=>if k<0 then none else some k.toNat)=some st'∧Rel (ordF p o) st'∧st'.l.length=st.l.length
 | [],p,st,h=>⟨st,rfl,h,rfl⟩
 | k::o,p,st,h=>by
  rw [List.map_cons]
  by_cases h0:k<0
  ·rw [if_pos h0]
   have ht:takeF p k=(p,false):=by unfold takeF;rw [if_pos h0]
   obtain ⟨st',h1,h2,h3⟩:=bdf o h
   refine ⟨st',h1,?_,h3⟩
   show Rel (ordF (takeF p k).1 o) st'
   rw [ht];exact h2
  ·rw [if_neg h0]
   obtain ⟨n,rfl⟩:∃ n:Nat,k=n:=⟨k.toNat,by omega⟩
   rw [Int.toNat_natCast]
   obtain ⟨st1,h1,h2,h3,h4⟩:=xi_ h n
   obtain ⟨st',g1,g2,g3⟩:=bdf o h2
   refine ⟨st',?_,g2,by omega⟩
   unfold Mach.byOrder
   by_cases hm:Mach.may st n=true
   ·rw [if_pos hm] at h1 ⊢
    rw [h1];exact g1
   ·rw [if_neg hm] at h1 ⊢
    cases h1;exact g1
theorem sa_ {f:Nat}:∀ (m k:Nat) (s:Mach.St) (q:Bool),Mach.round f (m+1) k s q=(Mach.round f m k s q).bind fun y=>if Mach.may y.1 (k+m)=true then (Mach.turn f y.1 (k+m)).bind fun s=>some (s,true) else some (y.1,y.2)
 | 0,k,s,q=>by
  show (if Mach.may s k=true then (Mach.turn f s k).bind fun s=>some (s,true) else some (s,q))=_
  rfl
 | m+1,k,s,q=>by
  rw [Mach.round]
  conv=>rhs;rw [Mach.round]
  by_cases hm:Mach.may s k=true
  ·rw [if_pos hm,if_pos hm]
   cases Mach.turn f s k with
   | none=>rfl
   | some s1 =>
    simp only [Option.bind_some]
    rw [sa_ m (k+1) s1 true,show k+1+m=k+(m+1) by omega]
  ·rw [if_neg hm,if_neg hm]
   rw [sa_ m (k+1) s q,show k+1+m=k+(m+1) by omega]
theorem bbc {p:PS (mG D U Pv)} {st:Mach.St} (h:Rel p st):∀ n,∃ st',Mach.round D.fu n 0 st false=some (st',(dc_ p n).2)∧Rel (dc_ p n).1 st'∧st'.l.length=st.l.length
 | 0=>⟨st,rfl,h,rfl⟩
 | n+1=>by
  obtain ⟨st1,h1,h2,h3⟩:=bbc h n
  obtain ⟨st2,g1,g2,g3,g4⟩:=xi_ h2 n
  refine ⟨st2,?_,g2,by omega⟩
  rw [sa_,h1]
  simp only [Option.bind_some,Nat.zero_add]
  show _=some (st2,(takeF (dc_ p n).1 n).2||(dc_ p n).2)
  rw [g3]
  by_cases hm:Mach.may st1 n=true
  ·rw [if_pos hm] at g1 ⊢
   rw [g1,hm];rfl
  ·rw [if_neg hm] at g1 ⊢
   cases g1
   rw [Bool.not_eq_true] at hm
   rw [hm];rfl
theorem bhj:∀ (n:Nat) {p:PS (mG D U Pv)} {st:Mach.St},Rel p st→16384<p.tr.length+n→∃ st',Mach.rounds D.fu n st=some st'∧Rel (restF n p) st'∧st'.l.length=st.l.length
 | 0,p,st,h,hn=>by
  have:=h.le
  have e:p.tr.length=st.tr.length:=by rw [h.tr];simp
  omega
 | n+1,p,st,h,hn=>by
  obtain ⟨st1,h1,h2,h3⟩:=bbc h p.qs.length
  have hg:=pf_ p p.qs.length
  unfold Mach.rounds restF
  rw [← h.len,h1]
  simp only [Option.bind_some]
  by_cases hm:(dc_ p p.qs.length).2=true
  ·rw [if_pos hm] at hg
   rw [if_pos hm,if_pos hm]
   obtain ⟨st',g1,g2,g3⟩:=bhj n h2 (by omega)
   exact ⟨st',g1,g2,g3.trans (h3.trans h.len.symm)⟩
  ·rw [if_neg hm,if_neg hm]
   exact ⟨st1,rfl,h2,h3.trans h.len.symm⟩
structure Begins (D:Wds) (U:(Nat→Nat)→HProp) (Pv:Nat × Mach.Th→HProp) (k0:Nat) (ts:List (Thr (mG D U Pv))) (cc:List (List Mach.Cl)):Prop where
 len:ts.length=cc.length
 ini:∀ (k:Nat) t c,ts[k]?=some t→cc[k]?=some c→∃ u,Mach.onF D.fu { calls:=c }=some u∧GoodT D u∧∀ s:(mG D U Pv).σ,t.ini s=(s,((k0+k,u):Nat × Mach.Th))
theorem vr_:∀ (ts:List (Thr (mG D U Pv))) (cc:List (List Mach.Cl)) (k0:Nat) (s:(mG D U Pv).σ),Begins D U Pv k0 ts cc→∃ l,Mach.begin_ D.fu (cc.map fun c=>{ calls:=c })=some l∧l.length=ts.length∧(∀ t∈l,GoodT D t)∧(dz_ ts s).1=s∧∀ k:Nat,(dz_ ts s).2[k]?=(l[k]?).map fun t=>(k0+k,t)
 | [],cc,k0,s,h=>by
  have:=h.len
  obtain rfl:cc=[]:=List.length_eq_zero_iff.1 this.symm
  exact ⟨[],rfl,rfl,fun t ht=>by simp at ht,rfl,fun k=>rfl⟩
 | t::ts,cc,k0,s,h=>by
  cases cc with
  | nil=>have:=h.len;simp at this
  | cons c cc =>
   obtain ⟨u,h1,h2,h3⟩:=h.ini 0 t c rfl rfl
   obtain ⟨l,g1,g2,g3,g4,g5⟩:=vr_ ts cc (k0+1) s ⟨by have:=h.len;simp at this;exact this,fun k t' c' e1 e2=>by
    obtain ⟨u',a,b,d⟩:=h.ini (k+1) t' c' e1 e2
    exact ⟨u',a,b,fun s=>by rw [d s,show k0+(k+1)=k0+1+k by omega]⟩⟩
   refine ⟨u::l,?_,by simp [g2],?_,?_,?_⟩
   ·simp only [List.map_cons,Mach.begin_,h1,Option.bind_some,g1,Option.map_some]
   ·intro t' ht'
    rcases List.mem_cons.1 ht' with rfl | ht'
    ·exact h2
    ·exact g3 t' ht'
   ·show (dz_ ts (t.ini s).1).1=s
    rw [h3 s];exact g4
   ·intro k
    show ((t.ini s).2::(dz_ ts (t.ini s).1).2)[k]?=_
    rw [h3 s]
    cases k with
    | zero=>rfl
    | succ k =>
     simp only [List.getElem?_cons_succ]
     have:=g5 k
     rw [show k0+1+k=k0+(k+1) by omega] at this
     exact this
theorem bhq {ts:List (Thr (mG D U Pv))} {cc:List (List Mach.Cl)} {s0:(mG D U Pv).σ} {o:List Int} (hb:Begins D U Pv 0 ts cc) (h0:D.ok s0):∃ st,Mach.play D.fu 16385 (D.W s0) (o.map fun k=>if k<0 then none else some k.toNat) cc=some st∧Rel (playF ts s0 o) st∧st.l.length=cc.length:=by
 obtain ⟨l,h1,h2,h3,h4,h5⟩:=vr_ ts cc 0 s0 hb
 have hr:Rel (D:=D) (U:=U) (Pv:=Pv) ⟨(dz_ ts s0).1,(dz_ ts s0).2,[]⟩ ⟨D.W s0,l,[]⟩ :=
  ⟨congrArg D.W h4.symm,(mi_ ts (show (mG D U Pv).σ from s0)).trans h2.symm,fun k=>(h5 k).trans (by rw [Nat.zero_add]),rfl,Nat.zero_le _,h3,(show D.ok (dz_ ts (show (mG D U Pv).σ from s0)).1 from h4.symm▸h0)⟩
 obtain ⟨st1,g1,g2,g3⟩:=bdf o hr
 obtain ⟨st2,k1,k2,k3⟩:=bhj 16385 g2 (by omega)
 refine ⟨st2,?_,k2,?_⟩
 ·unfold Mach.play
  rw [h1];simp only [Option.bind_some];rw [g1];simp only [Option.bind_some];exact k1
 ·rw [k3,g3];show l.length=_;rw [h2,hb.len]
end
end
end Go.Proofs.Ytnnpdmhmpgmpnaa
namespace Go.Proofs.Ytnnpdmhmpgmpnaa
open Go Go.PB
attribute [local irreducible] Mo Bin Eql Tr Wo
section
structure Acc (B:Hand) (gv:Value) where
 S:Type
 C:S→HProp
 x:S→B.X
 step:Int→Nat→S→(S→Prop)→Prop
 addr:Nat→Nat × Nat
 load:Nat→S→(Nat→S→Prop)→Prop
 store:Nat→Nat→S→(S→Prop)→Prop
 cas:Nat→Nat→Nat→S→(Bool→S→Prop)→Prop
 add:Nat→Nat→S→(Nat→S→Prop)→Prop
 swap:Nat→Nat→S→(Nat→S→Prop)→Prop
 gate:(gv=.nilIface∧∀ op w s R,step op w s R→R s) ∨
  ∃ t p f,gv=.iface t p∧Met Try.prog t "Step" f∧Ent' Try.prog f∧∀ op w s R L F,step op w s R→Has L (C s) F →
   Tr Try.prog B f [p,.agg #[.int .u8 op,.int .i64 (w:Nat)]] L (x s) fun v L' x'=>∃ s',R s'∧v=.tuple #[]∧L'=C s'::F∧x'=x s'
 load_ok:∀ w s R L F b o,addr w=(b,o)→load w s R→Has L (C s) F→Tr Try.prog B 50 [.pointer (some ⟨b,o,none⟩)] L (x s) fun v L' x'=>∃ n s',n<18446744073709551616∧R n s'∧v=.int .u64 (n:Nat)∧L'=C s'::F∧x'=x s'
 store_ok:∀ w n s R L F b o,addr w=(b,o)→n<18446744073709551616→store w n s R→Has L (C s) F→Tr Try.prog B 87 [.pointer (some ⟨b,o,none⟩),.int .u64 (n:Nat)] L (x s) fun v L' x'=>∃ s',R s'∧v=.tuple #[]∧L'=C s'::F∧x'=x s'
 cas_ok:∀ w m n s R L F b o,addr w=(b,o)→n<18446744073709551616→cas w m n s R→Has L (C s) F→Tr Try.prog B 73 [.pointer (some ⟨b,o,none⟩),.int .u64 (m:Nat),.int .u64 (n:Nat)] L (x s) fun v L' x'=>∃ q s',R q s'∧v=.bool q∧L'=C s'::F∧x'=x s'
 add_ok:∀ w n s R L F b o,addr w=(b,o)→n<18446744073709551616→add w n s R→Has L (C s) F→Tr Try.prog B 85 [.pointer (some ⟨b,o,none⟩),.int .u64 (n:Nat)] L (x s) fun v L' x'=>∃ m s',m<18446744073709551616∧R m s'∧v=.int .u64 (m:Nat)∧L'=C s'::F∧x'=x s'
section
variable {B:Hand} [Lets B] {L F L1:List HProp}
theorem bbs {b o:Nat} {n:Int} {x:B.X} (hr:Rd L b o (.int .u64 n)):Tr Try.prog B 50 [.pointer (some ⟨b,o,none⟩)] L x fun v L' x'=>v=.int .u64 n∧L'=L∧x'=x:=by
 refine bd_ Try.func50 rfl Try.ntmps50 (by simp) fun um Q _ hQ=>?_
 simp only [argE,Nat.zero_add,Nat.reduceAdd]
 repeat (first | (apply wo_po;apply yi_ (args:=[_]);exact .cons rfl .nil;exact cdv hr;exact trivial) | refine bb_ ?_ | (refine wR ?_;try simp only [oS]) | refine ba_ ?_ | refine wM ?_ | refine wA ?_ | refine wN ?_ | refine wD ?_ | refine bn_ ?_)
 (first | refine or1 Try.func50 Try.results50 hQ rfl ?_ | refine on1 Try.func50 Try.results50 hQ rfl ?_)
 exact ⟨rfl,rfl,rfl⟩
theorem xj_ {b o:Nat} {n:Int} {x:B.X} (hw:Wt L b o (.int .u64 n) L1):Tr Try.prog B 87 [.pointer (some ⟨b,o,none⟩),.int .u64 n] L x fun v L' x'=>v=.tuple #[]∧L'=L1∧x'=x:=by
 refine bd_ Try.func87 rfl Try.ntmps87 (by simp) fun um Q _ hQ=>?_
 simp only [argE,Nat.zero_add,Nat.reduceAdd]
 repeat (first | (apply wo_pm;apply yi_ (args:=[_,_]);exact .cons rfl (.cons rfl .nil);exact bww rfl hw;exact trivial) | (refine wR ?_;try simp only [oS]) | refine ba_ ?_ | refine wM ?_ | refine wN ?_ | refine wD ?_)
 (first | refine or0 Try.func87 Try.results87 hQ ?_ | refine on0 Try.func87 Try.results87 hQ ?_)
 exact ⟨rfl,rfl,rfl⟩
theorem bkh {b o:Nat} {n m y:Int} {x:B.X} (hr:Rd L b o (.int .u64 n)) (hw:Wt L b o (.int .u64 y) L1):Tr Try.prog B 73 [.pointer (some ⟨b,o,none⟩),.int .u64 m,.int .u64 y] L x fun v L' x'=>v=.bool (decide (n=m))∧L'=(if n=m then L1 else L)∧x'=x:=by
 refine bd_ Try.func73 rfl Try.ntmps73 (by simp) fun um Q _ hQ=>?_
 simp only [argE,Nat.zero_add,Nat.reduceAdd]
 repeat (first | (apply wo_pm;apply yi_ (args:=[_,_,_]);exact .cons rfl (.cons rfl (.cons rfl .nil));exact ckf hr hw;exact trivial) | refine bb_ ?_ | (refine wR ?_;try simp only [oS]) | refine ba_ ?_ | refine wM ?_ | refine wA ?_ | refine wN ?_ | refine wD ?_ | refine bn_ ?_)
 (first | refine or1 Try.func73 Try.results73 hQ rfl ?_ | refine on1 Try.func73 Try.results73 hQ rfl ?_)
 exact ⟨rfl,rfl,rfl⟩
theorem bks {b o:Nat} {n y r:Int} {x:B.X} (hr:Rd L b o (.int .u64 n)) (hn:IntKind.u64.wrap (n+y)=r) (hw:Wt L b o (.int .u64 r) L1):Tr Try.prog B 85 [.pointer (some ⟨b,o,none⟩),.int .u64 y] L x fun v L' x'=>v=.int .u64 r∧L'=L1∧x'=x:=by
 refine bd_ Try.func85 rfl Try.ntmps85 (by simp) fun um Q _ hQ=>?_
 simp only [argE,Nat.zero_add,Nat.reduceAdd]
 repeat (first | (apply wo_pm;apply yi_ (args:=[_,_]);exact .cons rfl (.cons rfl .nil);exact ckg hr hn hw;exact trivial) | refine bb_ ?_ | (refine wR ?_;try simp only [oS]) | refine ba_ ?_ | refine wM ?_ | refine wA ?_ | refine wN ?_ | refine wD ?_ | refine bn_ ?_)
 (first | refine or1 Try.func85 Try.results85 hQ rfl ?_ | refine on1 Try.func85 Try.results85 hQ rfl ?_)
 exact ⟨rfl,rfl,rfl⟩
end
end
section
variable {B:Hand} [Lets B]
def bdj (x:B.X) (addr:Nat→Nat × Nat) (N:Nat) (K:List (Nat × Nat × Value)) (A:Apart addr N K):Acc B .nilIface where
 S:=Nat→Nat
 C:=wds addr N K
 x:=fun _=>x
 step:=fun _ _ s R=>R s
 addr:=addr
 load:=fun w s R=>w<N∧R (s w) s
 store:=fun w n s R=>w<N∧R (upd s w n)
 cas:=fun w a n s R=>w<N∧if s w=a then R true (upd s w n) else R false s
 add:=fun w n s R=>w<N∧R ((s w+n)%18446744073709551616) (upd s w ((s w+n)%18446744073709551616))
 swap:=fun w n s R=>w<N∧R (s w) (upd s w n)
 gate:=.inl ⟨rfl,fun _ _ _ _ h=>h⟩
 load_ok:=fun w s R L F b o ha hl hh=>fm_ (bp_ hh fun h hc=>(hc.1 w hl.1).1) fun hs =>
  (bbs (vi_ hh hl.1 ha)).post fun v L' x' ⟨h1,h2,h3⟩=>⟨_,⟨s w,s,hs,hl.2,h1,rfl,h3⟩,fun h st=>hh.star (h2▸st)⟩
 store_ok:=fun w n s R L F b o ha hn hl hh =>
  (xj_ (tw_ A hh hl.1 ha hn)).mono fun v L' x' ⟨h1,h2,h3⟩=>⟨upd s w n,hl.2,h1,h2,h3⟩
 cas_ok:=fun w m n s R L F b o ha hn hl hh =>
  (bkh (vi_ hh hl.1 ha) (tw_ A hh hl.1 ha hn)).post fun v L' x' ⟨h1,h2,h3⟩=>by
   obtain ⟨h4,h5⟩:=hl
   by_cases e:s w=m
   ·rw [if_pos e] at h5;rw [if_pos (by omega)] at h2;exact ⟨_,⟨true,_,h5,by rw [h1];simp [e],rfl,h3⟩,fun h st=>h2▸st⟩
   ·rw [if_neg e] at h5;rw [if_neg (by omega)] at h2;exact ⟨_,⟨false,_,h5,by rw [h1];simp;omega,rfl,h3⟩,fun h st=>hh.star (h2▸st)⟩
 add_ok:=fun w n s R L F b o ha hn hl hh =>
  (bks (r:=((s w+n)%18446744073709551616:Nat)) (vi_ hh hl.1 ha) (by rw [fi_];omega) (tw_ A hh hl.1 ha (Nat.mod_lt _ (by decide)))).mono fun v L' x' ⟨h1,h2,h3⟩=>⟨_,_,Nat.mod_lt _ (by decide),hl.2,h1,h2,h3⟩
end
end Go.Proofs.Ytnnpdmhmpgmpnaa
namespace Go.Proofs.Ytnnpdmhmpgmpnaa
open Go Go.PB
attribute [local irreducible] Mo Bin Eql Tr Wo Ap Wle
section
theorem zo_ {addr:Nat→Nat × Nat} {N:Nat} {K:List (Nat × Nat × Value)} {f f':Nat→Nat} (e:∀ i,i<N→f i=f' i):∀ h,wds addr N K f h→wds addr N K f' h:=fun h s =>
 ⟨fun w hw=>by rw [← e w hw];exact s.1 w hw,s.2⟩
structure PlS where
 f:Nat→Nat
 g:Nat→Nat
 t:Mach.Th
 n:Nat
abbrev wG (D:Wds) (addr:Nat→Nat × Nat) (N:Nat) (K:List (Nat × Nat × Value)) (Z:HProp) (Pv:Nat × Mach.Th→HProp):Game:=mG D (fun f=>all [wds addr N K f,Z]) Pv
section
variable {D:Wds} {addr:Nat→Nat × Nat} {N:Nat} {K:List (Nat × Nat × Value)} {Z:HProp} {Pv:Nat × Mach.Th→HProp} {sb says turn fin wg:Nat}
def plC (addr:Nat→Nat × Nat) (N:Nat) (K:List (Nat × Nat × Value)) (Z:HProp) (sb says turn fin:Nat) (Pm:HProp) (f:Nat→Nat):HProp:=all [wds addr N K f,Z,seatR sb says turn fin,Pm]
def cfg (D:Wds) (N:Nat) (Pv:Nat × Mach.Th→HProp) (k:Nat) (Pm:HProp) (op:Int) (w:Nat) (s:PlS) (R:PlS→Prop):Prop :=
 s.t.over=false∧((s.t.mark.1:Nat):Int)=op∧s.t.mark.2=w∧(∀ i,i<N→s.f i=s.g i)∧(∀ h,Pm h→Pv (k,s.t) h)∧∀ f n,n<s.n→D.ok f→∃ y,Mach.opF D.fu (D.W f) s.t=some y∧R ⟨f,D.un y.1,y.2,n⟩
theorem chj {k:Nat} {Pm:HProp} (hPv:∀ q h,Star [Pv q] h→Pv q h) {op:Int} {w:Nat} {s:PlS} {R:PlS→Prop} {L F:List HProp} (hs:cfg D N Pv k Pm op w s R) (hh:Has L (plC addr N K Z sb says turn fin Pm s.f) F) :
  Tr Try.prog tH 128 [.pointer (some ⟨sb,0,none⟩),.agg #[.int .u8 op,.int .i64 (w:Nat)]] L (tx (wG D addr N K Z Pv) says turn fin wg (.busy s.g ((k,s.t):Nat × Mach.Th) s.n)) fun v L' x' =>
   ∃ s',R s'∧v=.tuple #[]∧L'=plC addr N K Z sb says turn fin Pm s'.f::F∧x'=tx (wG D addr N K Z Pv) says turn fin wg (.busy s'.g ((k,s'.t):Nat × Mach.Th) s'.n):=by
 obtain ⟨ho,hop,hw,hfg,hpm,hR⟩:=hs
 have hp:(wG D addr N K Z Pv).plan ((k,s.t):Nat × Mach.Th)=some ((op,((w:Nat):Int)),mF D (k,s.t)):=by
  show mPlan D (k,s.t)=_
  unfold mPlan
  rw [if_neg (by rw [ho];decide)]
  unfold mkII
  rw [hop,hw]
 refine dw_ ((wG D addr N K Z Pv).U s.g::seatR sb says turn fin::Pm::F) (fun h st=>?_) ?_
 ·have s1:Star (wds addr N K s.f::Z::seatR sb says turn fin::Pm::F) h:=ci_ (M:=[_,_,_,_]) (hh.star st)
  exact bv_ (M:=[_,_]) (bm_ s1 (zo_ hfg) fun _ z=>z)
 ·refine (cgz (g:=wG D addr N K Z Pv) (mk:=(op,(w:Nat))) hp .here .here fun h st=>hPv _ _ ?_).post ?_
  ·exact bm_ (bs_ st) hpm fun _ z=>trivial
  ·rintro v L' x' ⟨m',(f':Nat→Nat),hm,hok,rfl,rfl,rfl⟩
   obtain ⟨y,hy,hR'⟩:=hR f' m' (by omega) hok
   refine ⟨_,⟨⟨f',D.un y.1,y.2,m'⟩,hR',rfl,rfl,?_⟩,fun h st=>?_⟩
   ·have e:mF D (k,s.t) f'=(D.un y.1,(k,y.2)):=by unfold mF;simp only [hy]
    show tx (wG D addr N K Z Pv) says turn fin wg (.busy (show (wG D addr N K Z Pv).σ from (mF D (k,s.t) f').1) (show (wG D addr N K Z Pv).θ from (mF D (k,s.t) f').2) m')=_
    rw [e]
   ·exact bv_ (M:=[_,_,_,_]) (ci_ (M:=[_,_]) st)
def hv_ (D:Wds) (addr:Nat→Nat × Nat) (N:Nat) (K:List (Nat × Nat × Value)) (A:Apart addr N K) (Z:HProp) (Pv:Nat × Mach.Th→HProp) (hPv:∀ q h,Star [Pv q] h→Pv q h) (sb says turn fin wg k:Nat) (Pm:HProp):Acc tH (gateV sb) where
 S:=PlS
 C:=fun s=>plC addr N K Z sb says turn fin Pm s.f
 x:=fun s=>tx (wG D addr N K Z Pv) says turn fin wg (.busy s.g ((k,s.t):Nat × Mach.Th) s.n)
 step:=cfg D N Pv k Pm
 addr:=addr
 load:=fun w s R=>w<N∧R (s.f w) s
 store:=fun w n s R=>w<N∧R { s with f:=upd s.f w n }
 cas:=fun w a n s R=>w<N∧if s.f w=a then R true { s with f:=upd s.f w n } else R false s
 add:=fun w n s R=>w<N∧R ((s.f w+n)%18446744073709551616) { s with f:=upd s.f w ((s.f w+n)%18446744073709551616) }
 swap:=fun w n s R=>w<N∧R (s.f w) { s with f:=upd s.f w n }
 gate:=.inr ⟨_,_,128,rfl,inferInstance,inferInstance,fun op w s R L F hs hh=>chj hPv hs hh⟩
 load_ok:=fun w s R L F b o ha hl hh=>dw_ _ (fun h st=>ci_ (hh.star st)) (fm_ (bp_ .here fun h hc=>(hc.1 w hl.1).1) fun hs =>
  (bbs (vi_ .here hl.1 ha)).post fun v L' x' ⟨h1,h2,h3⟩=>⟨_,⟨s.f w,s,hs,hl.2,h1,rfl,h3⟩,fun h st=>bv_ (M:=[_,_,_,_]) (by rw [h2] at st;exact st)⟩)
 store_ok:=fun w n s R L F b o ha hn hl hh=>dw_ _ (fun h st=>ci_ (hh.star st))
  ((xj_ (tw_ A .here hl.1 ha hn)).post fun v L' x' ⟨h1,h2,h3⟩=>⟨_,⟨{ s with f:=upd s.f w n },hl.2,h1,rfl,h3⟩,fun h st=>bv_ (M:=[_,_,_,_]) (by rw [h2] at st;exact st)⟩)
 cas_ok:=fun w m n s R L F b o ha hn hl hh=>dw_ _ (fun h st=>ci_ (hh.star st))
  ((bkh (vi_ .here hl.1 ha) (tw_ A .here hl.1 ha hn)).post fun v L' x' ⟨h1,h2,h3⟩=>by
   obtain ⟨h4,h5⟩:=hl
   by_cases e:s.f w=m
   ·rw [if_pos e] at h5;rw [if_pos (by omega)] at h2;exact ⟨_,⟨true,_,h5,by rw [h1];simp [e],rfl,h3⟩,fun h st=>bv_ (M:=[_,_,_,_]) (by rw [h2] at st;exact st)⟩
   ·rw [if_neg e] at h5;rw [if_neg (by omega)] at h2;exact ⟨_,⟨false,_,h5,by rw [h1];simp;omega,rfl,h3⟩,fun h st=>bv_ (M:=[_,_,_,_]) (by rw [h2] at st;exact st)⟩)
 add_ok:=fun w n s R L F b o ha hn hl hh=>dw_ _ (fun h st=>ci_ (hh.star st))
  ((bks (r:=((s.f w+n)%18446744073709551616:Nat)) (vi_ .here hl.1 ha) (by rw [fi_];omega) (tw_ A .here hl.1 ha (Nat.mod_lt _ (by decide)))).post fun v L' x' ⟨h1,h2,h3⟩=>⟨_,⟨_,{ s with f:=_ },Nat.mod_lt _ (by decide),hl.2,h1,rfl,h3⟩,fun h st=>bv_ (M:=[_,_,_,_]) (by rw [h2] at st;exact st)⟩)
end
end
end Go.Proofs.Ytnnpdmhmpgmpnaa
namespace Go.PB.Mach
section
def T (cs:List Cl) (c p:Nat) (r:Nat→Nat) (pre:List (Bool × List Nat)) (said:List Nat):Th:={ calls:=cs,call:=c,pc:=p,r:=r,ans:=pre++[(false,said)],over:=false }
def Bt (cs:List Cl) (c:Nat) (pre:List (Bool × List Nat)):Th:={ calls:=cs,call:=c,ans:=pre }
def Goes (k:Nat) (t t':Th):Prop:=∀ f,onF (f+k) t=onF f t'
theorem Goes.on {k f:Nat} {t t' t'':Th} (a:Goes k t t') (h:onF f t'=some t''):onF (f+k) t=some t'':=by rw [a,h]
theorem Goes.on1 {f:Nat} {t t' t'':Th} (a:Goes 1 t t') (h:onF f t'=some t''):onF (f+1) t=some t'':=a.on h
theorem onF_more:∀ {f:Nat} {t t':Th} {k:Nat},onF f t=some t'→onF (f+k) t=some t':=by
 intro f
 induction f with
 | zero=>intro t t' k h;cases h
 | succ f ih =>
  intro t t' k h
  rw [show f+1+k=(f+k)+1 by omega]
  unfold onF at h ⊢
  split at h
  ·rename_i h1;rw [if_pos h1];exact h
  rename_i h1;rw [if_neg h1]
  split at h
  ·rename_i h2;rw [if_pos h2];exact h
  rename_i h2;rw [if_neg h2]
  split at h
  ·rename_i h3;rw [if_pos h3];exact h
  rename_i h3;rw [if_neg h3]
  split at h
  ·rename_i h4;rw [if_pos h4];exact ih h
  ·rename_i h4;rw [if_neg h4];exact ih h
section
variable {cs:List Cl} {cl:Cl} {c p:Nat} {r:Nat→Nat} {pre:List (Bool × List Nat)} {said:List Nat} {x:In}
theorem ckr (hp:pre.length=c):(T cs c p r pre said).begun=T cs c p r pre said:=by
 unfold Th.begun
 rw [if_neg]
 simp [T,hp]
theorem zd_ (hc:cs[c]?=some cl) (h:cl.code[p]?=some x):(T cs c p r pre said).next=x:=by
 unfold Th.next Th.cl
 simp only [T,List.getD_eq_getElem?_getD,hc,Option.getD_some,h]
theorem bkt (hc:cs[c]?=some cl) (h:cl.code[p]?=none):(T cs c p r pre said).next=fin:=by
 unfold Th.next Th.cl
 simp only [T,List.getD_eq_getElem?_getD,hc,Option.getD_some,h,Option.getD_none]
theorem T_onF {f:Nat} (hc:cs[c]?=some cl) (hp:pre.length=c):onF (f+1) (T cs c p r pre said) =
  if told (T cs c p r pre said).next.op=true then some (T cs c p r pre said) else if (T cs c p r pre said).next.op=23 then onF f (T cs c p r pre said).done else onF f (own (T cs c p r pre said) (T cs c p r pre said).next):=by
 have hlt:c<cs.length:=(List.getElem?_eq_some_iff.1 hc).1
 rw [onF,if_neg (by simp [T]),if_neg (by simp only [T];omega),ckr hp]
theorem gh_ {t':Th} (hc:cs[c]?=some cl) (hp:pre.length=c) (h:cl.code[p]?=some x) (h1:told x.op=false) (h2:x.op≠23) (ho:own (T cs c p r pre said) x=t'):Goes 1 (T cs c p r pre said) t':=fun f=>by
 rw [T_onF hc hp,zd_ hc h,if_neg (by rw [h1];decide),if_neg h2,ho]
theorem do_ {f:Nat} (hc:cs[c]?=some cl) (hp:pre.length=c) (h:cl.code[p]?=some x) (h1:told x.op=true):onF (f+1) (T cs c p r pre said)=some (T cs c p r pre said):=by
 rw [T_onF hc hp,zd_ hc h,if_pos h1]
variable {on a b cc d n:Nat}
theorem cck (hc:cs[c]?=some cl) (hp:pre.length=c) (h:cl.code[p]?=some ⟨6,on,a,b,cc,d,n⟩):Goes 1 (T cs c p r pre said) (T cs c (p+1) (upd r a (n%18446744073709551616)) pre said):=gh_ hc hp h rfl (by simp) rfl
theorem bvs (hc:cs[c]?=some cl) (hp:pre.length=c) (h:cl.code[p]?=some ⟨8,on,a,b,cc,d,n⟩):Goes 1 (T cs c p r pre said) (T cs c (p+1) (upd r a ((r b+r cc+n)%18446744073709551616)) pre said):=gh_ hc hp h rfl (by simp) rfl
theorem bvv (hc:cs[c]?=some cl) (hp:pre.length=c) (h:cl.code[p]?=some ⟨9,on,a,b,cc,d,n⟩):Goes 1 (T cs c p r pre said) (T cs c (p+1) (upd r a ((r b+18446744073709551616-r cc)%18446744073709551616)) pre said):=gh_ hc hp h rfl (by simp) rfl
theorem cjg (hc:cs[c]?=some cl) (hp:pre.length=c) (h:cl.code[p]?=some ⟨13,on,a,b,cc,d,n⟩):Goes 1 (T cs c p r pre said) (T cs c (p+1) (upd r a ((r b ||| r cc)%18446744073709551616)) pre said):=gh_ hc hp h rfl (by simp) rfl
theorem bvw (hc:cs[c]?=some cl) (hp:pre.length=c) (h:cl.code[p]?=some ⟨14,on,a,b,cc,d,n⟩):Goes 1 (T cs c p r pre said) (T cs c (p+1) (upd r a ((r b*2^n)%18446744073709551616)) pre said):=gh_ hc hp h rfl (by simp) rfl
theorem bnz (hc:cs[c]?=some cl) (hp:pre.length=c) (h:cl.code[p]?=some ⟨15,on,a,b,cc,d,n⟩):Goes 1 (T cs c p r pre said) (T cs c (p+1) (upd r a ((r b/2^n)%18446744073709551616)) pre said):=gh_ hc hp h rfl (by simp) rfl
theorem bvt (hc:cs[c]?=some cl) (hp:pre.length=c) (h:cl.code[p]?=some ⟨17,on,a,b,cc,d,n⟩):Goes 1 (T cs c p r pre said) (T cs c (p+1) (upd r a (cl.data.getD ((r b+n)%18446744073709551616) 0%18446744073709551616)) pre said):=gh_ hc hp h rfl (by simp) (by
 show Th.put _ _ _=_
 have:(T cs c p r pre said).cl=cl:=by unfold Th.cl;simp only [T,List.getD_eq_getElem?_getD,hc,Option.getD_some]
 unfold Th.put
 show { T cs c p r pre said with pc:=p+1,r:=upd r a ((T cs c p r pre said).cl.data.getD ((r b+n)%18446744073709551616) 0%18446744073709551616) }=_
 rw [this];rfl)
theorem bvx (hc:cs[c]?=some cl) (hp:pre.length=c) (h:cl.code[p]?=some ⟨18,on,a,b,cc,d,n⟩):Goes 1 (T cs c p r pre said) (T cs c n r pre said):=gh_ hc hp h rfl (by simp) rfl
theorem bnw (hc:cs[c]?=some cl) (hp:pre.length=c) (h:cl.code[p]?=some ⟨19,on,a,b,cc,d,n⟩) (e:r a=r b):Goes 1 (T cs c p r pre said) (T cs c n r pre said):=gh_ hc hp h rfl (by simp) (if_pos e)
theorem bnx (hc:cs[c]?=some cl) (hp:pre.length=c) (h:cl.code[p]?=some ⟨19,on,a,b,cc,d,n⟩) (e:¬ r a=r b):Goes 1 (T cs c p r pre said) (T cs c (p+1) r pre said):=gh_ hc hp h rfl (by simp) (if_neg e)
theorem bjk (hc:cs[c]?=some cl) (hp:pre.length=c) (h:cl.code[p]?=some ⟨20,on,a,b,cc,d,n⟩) (e:r a<r b):Goes 1 (T cs c p r pre said) (T cs c n r pre said):=gh_ hc hp h rfl (by simp) (if_pos e)
theorem bjm (hc:cs[c]?=some cl) (hp:pre.length=c) (h:cl.code[p]?=some ⟨20,on,a,b,cc,d,n⟩) (e:¬ r a<r b):Goes 1 (T cs c p r pre said) (T cs c (p+1) r pre said):=gh_ hc hp h rfl (by simp) (if_neg e)
theorem wc_ {l:List (Bool × List Nat)} {y:Bool × List Nat} {g:Bool × List Nat→Bool × List Nat} (h:l.length=c):(l++[y]).modify c g=l++[g y]:=by
 subst h
 induction l with
 | nil=>rfl
 | cons a l ih=>simp only [List.cons_append,List.length_cons,List.modify_succ_cons,ih]
theorem bvr (hc:cs[c]?=some cl) (hp:pre.length=c) (h:cl.code[p]?=some ⟨22,on,a,b,cc,d,n⟩):Goes 1 (T cs c p r pre said) (T cs c (p+1) r pre (said++[r a])):=gh_ hc hp h rfl (by simp) (by
 show Th.tell _ _=_
 unfold Th.tell T
 dsimp only
 rw [wc_ hp])
theorem ccx (hp:pre.length=c):(T cs c p r pre said).done=Bt cs (c+1) (pre++[(true,said)]):=by
 unfold Th.done T Bt
 dsimp only
 rw [wc_ hp]
theorem du_ (hc:cs[c]?=some cl) (hp:pre.length=c) (h:cl.code[p]?=some ⟨23,on,a,b,cc,d,n⟩):Goes 1 (T cs c p r pre said) (Bt cs (c+1) (pre++[(true,said)])):=fun f=>by
 rw [T_onF hc hp,zd_ hc h,if_neg (show ¬ told 23=true by decide),if_pos (show (23:Nat)=23 from rfl),ccx hp]
theorem pj_ (hc:cs[c]?=some cl) (hp:pre.length=c) (h:cl.code[p]?=none):Goes 1 (T cs c p r pre said) (Bt cs (c+1) (pre++[(true,said)])):=fun f=>by
 rw [T_onF hc hp,bkt hc h,if_neg (show ¬ told fin.op=true by decide),if_pos (show fin.op=23 from rfl),ccx hp]
theorem on_begin {f:Nat} (hc:cs[c]?=some cl) (hp:pre.length=c):onF (f+1) (Bt cs c pre)=onF (f+1) (T cs c 0 (fun _=>0) pre []):=by
 have hlt:c<cs.length:=(List.getElem?_eq_some_iff.1 hc).1
 have hb:(Bt cs c pre).begun=T cs c 0 (fun _=>0) pre []:=by
  unfold Th.begun Bt
  rw [if_pos hp];rfl
 rw [T_onF hc hp,onF,if_neg (by simp [Bt]),if_neg (by simp only [Bt];omega),hb]
theorem on_over {f:Nat} (hc:cs[c]?=none):onF (f+1) (Bt cs c pre)=some { Bt cs c pre with over:=true }:=by
 rw [onF,if_neg (by simp [Bt]),if_pos]
 simpa [Bt] using hc
theorem bnj {f:Nat} {w:Wd} {l:List Nat} {q:Nat} {t':Th} (hc:cs[c]?=some cl) (h:cl.code[p]?=some x) (hl:w.row x.on=l) (hq:(r x.b+x.n)%18446744073709551616=q) (hlt:q<l.length) (ho:onF f (T cs c (p+1) (op1 x l q r).2 pre said)=some t') :
  opF f w (T cs c p r pre said)=some ({ w with words:=w.words.set x.on (op1 x l q r).1 },t'):=by
 unfold opF
 have hn:=zd_ (r:=r) (pre:=pre) (said:=said) hc h
 have hpl:(T cs c p r pre said).place=q:=by unfold Th.place;rw [hn];exact hq
 rw [hn,hpl,hl,if_pos hlt]
 dsimp only
 show (onF f (T cs c (p+1) (op1 x l q r).2 pre said)).map _=_
 rw [ho];rfl
theorem chs {q:Nat} (hc:cs[c]?=some cl) (h:cl.code[p]?=some x) (hq:(r x.b+x.n)%18446744073709551616=q):(T cs c p r pre said).mark=(x.op,q):=by
 have hn:=zd_ (r:=r) (pre:=pre) (said:=said) hc h
 unfold Th.mark Th.place
 rw [hn]
 exact Prod.ext rfl hq
end
def soloF (f:Nat):Nat→Wd→Th→List (Nat × Nat)→Option (Wd × Th × List (Nat × Nat))
 | 0,_,_,_=>none
 | g+1,w,t,ms=>if t.over=true then some (w,t,ms) else (opF f w t).bind fun y=>soloF f g y.1 y.2 (ms++[t.mark])
theorem btb {f:Nat}:∀ {g:Nat} {w w':Wd} {t t':Th} {ms ms':List (Nat × Nat)},soloF f g w t ms=some (w',t',ms')→ms.length≤ms'.length:=by
 intro g
 induction g with
 | zero=>intro w w' t t' ms ms' h;cases h
 | succ g ih =>
  intro w w' t t' ms ms' h
  unfold soloF at h
  split at h
  ·cases h;exact Nat.le_refl _
  ·cases ho:opF f w t with
   | none=>rw [ho] at h;cases h
   | some y =>
    rw [ho,Option.bind_some] at h
    have:=ih h
    simp at this;omega
theorem bgv {f:Nat}:∀ {g:Nat} {w w':Wd} {t t':Th} {ms ms':List (Nat × Nat)},soloF f g w t ms=some (w',t',ms')→ms'.length≤16384 →
  rounds f g ⟨w,[t],ms.map fun m=>(0,m)⟩=some ⟨w',[t'],ms'.map fun m=>(0,m)⟩:=by
 intro g
 induction g with
 | zero=>intro w w' t t' ms ms' h;cases h
 | succ g ih =>
  intro w w' t t' ms ms' h hl
  unfold soloF at h
  unfold rounds
  split at h
  ·rename_i ho
   cases h
   have:round f ([t]:List Th).length 0 ⟨w,[t],ms.map fun m=>(0,m)⟩ false=some (⟨w,[t],ms.map fun m=>(0,m)⟩,false):=by
    show round f 1 0 _ _=_
    unfold round
    rw [if_neg (by unfold may;simp [ho])]
    rfl
   dsimp only
   rw [this];rfl
  ·rename_i ho
   rw [Bool.not_eq_true] at ho
   cases hop:opF f w t with
   | none=>rw [hop] at h;cases h
   | some y =>
    rw [hop,Option.bind_some] at h
    have hlen:=btb h
    simp only [List.length_append,List.length_cons,List.length_nil] at hlen
    have:round f ([t]:List Th).length 0 ⟨w,[t],ms.map fun m=>(0,m)⟩ false=some (⟨y.1,[y.2],(ms++[t.mark]).map fun m=>(0,m)⟩,true):=by
     show round f 1 0 _ _=_
     unfold round
     rw [if_pos (by unfold may;simp [ho];omega)]
     unfold turn
     simp only [List.getElem?_cons_zero,hop,Option.map_some,Option.bind_some]
     simp [round]
    dsimp only
    rw [this]
    exact ih h hl
theorem btm {f g:Nat} {w w':Wd} {cl:Cl} {t t':Th} {ms:List (Nat × Nat)} (h0:onF f { calls:=[cl] }=some t) (h:soloF f g w t []=some (w',t',ms)) (hl:ms.length≤16384):play f g w [] [[cl]]=some ⟨w',[t'],ms.map fun m=>(0,m)⟩:=by
 unfold play begin_
 simp only [List.map_cons,List.map_nil,h0,Option.bind_some,begin_,Option.map_some,byOrder]
 exact bgv (ms:=[]) h hl
theorem cgw {f g:Nat} {w w1:Wd} {t t1:Th} {ms:List (Nat × Nat)} {r:Wd × Th × List (Nat × Nat)} (ho:t.over=false) (h:opF f w t=some (w1,t1)) (k:soloF f g w1 t1 (ms++[t.mark])=some r):soloF f (g+1) w t ms=some r:=by
 unfold soloF
 rw [if_neg (by rw [ho];decide),h]
 exact k
theorem bzx {f g:Nat} {w:Wd} {t:Th} {ms:List (Nat × Nat)} (ho:t.over=true):soloF f (g+1) w t ms=some (w,t,ms):=by
 unfold soloF
 rw [if_pos ho]
section
variable {cs:List Cl} {cl:Cl} {c p:Nat} {r:Nat→Nat} {pre:List (Bool × List Nat)} {said:List Nat} {x:In} {on a b cc d n vb vc v:Nat}
theorem ks_ (hc:cs[c]?=some cl) (hp:pre.length=c) (h:cl.code[p]?=some ⟨6,on,a,b,cc,d,n⟩) (e:n%18446744073709551616=v):Goes 1 (T cs c p r pre said) (T cs c (p+1) (upd r a v) pre said):=by
 subst e;exact cck hc hp h
theorem su_ (hc:cs[c]?=some cl) (hp:pre.length=c) (h:cl.code[p]?=some ⟨8,on,a,b,cc,d,n⟩) (e:(vb+vc+n)%18446744073709551616=v) (hb:r b=vb) (hcc:r cc=vc):Goes 1 (T cs c p r pre said) (T cs c (p+1) (upd r a v) pre said):=by
 subst hb;subst hcc;subst e;exact bvs hc hp h
theorem cgv (hc:cs[c]?=some cl) (hp:pre.length=c) (h:cl.code[p]?=some ⟨9,on,a,b,cc,d,n⟩) (e:(vb+18446744073709551616-vc)%18446744073709551616=v) (hb:r b=vb) (hcc:r cc=vc):Goes 1 (T cs c p r pre said) (T cs c (p+1) (upd r a v) pre said):=by
 subst hb;subst hcc;subst e;exact bvv hc hp h
theorem st_or (hc:cs[c]?=some cl) (hp:pre.length=c) (h:cl.code[p]?=some ⟨13,on,a,b,cc,d,n⟩) (e:(vb ||| vc)%18446744073709551616=v) (hb:r b=vb) (hcc:r cc=vc):Goes 1 (T cs c p r pre said) (T cs c (p+1) (upd r a v) pre said):=by
 subst hb;subst hcc;subst e;exact cjg hc hp h
theorem cz_ (hc:cs[c]?=some cl) (hp:pre.length=c) (h:cl.code[p]?=some ⟨14,on,a,b,cc,d,n⟩) (e:(vb*2^n)%18446744073709551616=v) (hb:r b=vb):Goes 1 (T cs c p r pre said) (T cs c (p+1) (upd r a v) pre said):=by
 subst hb;subst e;exact bvw hc hp h
theorem cs_ (hc:cs[c]?=some cl) (hp:pre.length=c) (h:cl.code[p]?=some ⟨15,on,a,b,cc,d,n⟩) (e:(vb/2^n)%18446744073709551616=v) (hb:r b=vb):Goes 1 (T cs c p r pre said) (T cs c (p+1) (upd r a v) pre said):=by
 subst hb;subst e;exact bnz hc hp h
theorem ju_ (hc:cs[c]?=some cl) (hp:pre.length=c) (h:cl.code[p]?=some ⟨17,on,a,b,cc,d,n⟩) (e:cl.data.getD ((vb+n)%18446744073709551616) 0%18446744073709551616=v) (hb:r b=vb):Goes 1 (T cs c p r pre said) (T cs c (p+1) (upd r a v) pre said):=by
 subst hb;subst e;exact bvt hc hp h
theorem fa_ (hc:cs[c]?=some cl) (hp:pre.length=c) (h:cl.code[p]?=some ⟨19,on,a,b,cc,d,n⟩) (e:vb=vc) (hb:r a=vb) (hcc:r b=vc):Goes 1 (T cs c p r pre said) (T cs c n r pre said):=bnw hc hp h (by rw [hb,hcc,e])
theorem dt_ (hc:cs[c]?=some cl) (hp:pre.length=c) (h:cl.code[p]?=some ⟨19,on,a,b,cc,d,n⟩) (e:¬ vb=vc) (hb:r a=vb) (hcc:r b=vc):Goes 1 (T cs c p r pre said) (T cs c (p+1) r pre said):=bnx hc hp h (by rw [hb,hcc];exact e)
theorem va_ (hc:cs[c]?=some cl) (hp:pre.length=c) (h:cl.code[p]?=some ⟨20,on,a,b,cc,d,n⟩) (e:vb<vc) (hb:r a=vb) (hcc:r b=vc):Goes 1 (T cs c p r pre said) (T cs c n r pre said):=bjk hc hp h (by rw [hb,hcc];exact e)
theorem vb_ (hc:cs[c]?=some cl) (hp:pre.length=c) (h:cl.code[p]?=some ⟨20,on,a,b,cc,d,n⟩) (e:¬ vb<vc) (hb:r a=vb) (hcc:r b=vc):Goes 1 (T cs c p r pre said) (T cs c (p+1) r pre said):=bjm hc hp h (by rw [hb,hcc];exact e)
theorem ha_ (hc:cs[c]?=some cl) (hp:pre.length=c) (h:cl.code[p]?=some ⟨22,on,a,b,cc,d,n⟩) (hb:r a=vb):Goes 1 (T cs c p r pre said) (T cs c (p+1) r pre (said++[vb])):=by
 subst hb;exact bvr hc hp h
variable {f:Nat} {w:Wd} {l:List Nat} {q:Nat} {ws:List (List Nat)} {t':Th}
structure Op (f:Nat) (w:Wd) (t:Th) (m:Nat × Nat) (w':Wd) (t':Th):Prop where
 over:t.over=false
 on:opF f w t=some (w',t')
 mark:t.mark=m
theorem Op.of {w':Wd} (hc:cs[c]?=some cl) (h:cl.code[p]?=some x) (hq:(r x.b+x.n)%18446744073709551616=q) (ho:opF f w (T cs c p r pre said)=some (w',t')):Op f w (T cs c p r pre said) (x.op,q) w' t':=⟨rfl,ho,chs hc h hq⟩
theorem cbt (hc:cs[c]?=some cl) (h:cl.code[p]?=some ⟨1,on,a,b,cc,d,n⟩) (hw:w.words[on]?=some l) (hb:r b=vb) (hq:(vb+n)%18446744073709551616=q) (hv:l[q]?=some v) (ho:onF f (T cs c (p+1) (upd r a v) pre said)=some t') :
  opF f w (T cs c p r pre said)=some (w,t'):=by
 have hr:w.row on=l:=by unfold Wd.row;rw [List.getD_eq_getElem?_getD,hw];rfl
 have hg:l.getD q 0=v:=by rw [List.getD_eq_getElem?_getD,hv];rfl
 subst hb
 have:=bnj (f:=f) (t':=t') (pre:=pre) (said:=said) (r:=r) hc h hr hq (List.getElem?_eq_some_iff.1 hv).1 (by show onF f (T cs c (p+1) (upd r a (l.getD q 0)) pre said)=_;rw [hg];exact ho)
 rw [this]
 have e:w.words.set on l=w.words:=by
  apply List.ext_getElem?
  intro i
  rw [List.getElem?_set]
  split
  ·rename_i hi;subst hi;rw [if_pos (List.getElem?_eq_some_iff.1 hw).1,hw]
  ·rfl
 show some (({ w with words:=w.words.set on l }:Wd),t')=_
 rw [e]
theorem fo_ (hc:cs[c]?=some cl) (h:cl.code[p]?=some ⟨1,on,a,b,cc,d,n⟩) (hw:w.words[on]?=some l) (hb:r b=vb) (hq:(vb+n)%18446744073709551616=q) (hv:l[q]?=some v) (ho:onF f (T cs c (p+1) (upd r a v) pre said)=some t'):Op f w (T cs c p r pre said) (1,q) (w) t':=Op.of hc h (by rw [← hb] at hq;exact hq) (cbt hc h hw hb hq hv ho)
theorem cbv {vd:Nat} (hc:cs[c]?=some cl) (h:cl.code[p]?=some ⟨5,on,a,b,cc,d,n⟩) (hw:w.words[on]?=some l) (hb:r b=vb) (hq:(vb+n)%18446744073709551616=q) (hcc:r cc=v) (hd:r d=vd) (hv:l[q]?=some v) (hws:w.words.set on (l.set q vd)=ws) (ho:onF f (T cs c (p+1) (upd r a 1) pre said)=some t') :
  opF f w (T cs c p r pre said)=some (⟨ws,w.nl⟩,t'):=by
 have hr:w.row on=l:=by unfold Wd.row;rw [List.getD_eq_getElem?_getD,hw];rfl
 have hg:l.getD q 0=v:=by rw [List.getD_eq_getElem?_getD,hv];rfl
 have hop:op1 ⟨5,on,a,b,cc,d,n⟩ l q r=(l.set q vd,upd r a 1):=by
  show (if l.getD q 0=r cc then (l.set q (r d),upd r a 1) else (l,upd r a 0))=_
  rw [if_pos (by rw [hg,hcc]),hd]
 subst hb;subst hws
 rw [bnj (f:=f) (t':=t') (pre:=pre) (said:=said) (r:=r) hc h hr hq (List.getElem?_eq_some_iff.1 hv).1 (by rw [hop];exact ho),hop]
theorem jv_ {vd:Nat} (hc:cs[c]?=some cl) (h:cl.code[p]?=some ⟨5,on,a,b,cc,d,n⟩) (hw:w.words[on]?=some l) (hb:r b=vb) (hq:(vb+n)%18446744073709551616=q) (hcc:r cc=v) (hd:r d=vd) (hv:l[q]?=some v) (hws:w.words.set on (l.set q vd)=ws) (ho:onF f (T cs c (p+1) (upd r a 1) pre said)=some t'):Op f w (T cs c p r pre said) (5,q) (⟨ws,w.nl⟩) t':=Op.of hc h (by rw [← hb] at hq;exact hq) (cbv hc h hw hb hq hcc hd hv hws ho)
theorem cbw (hc:cs[c]?=some cl) (h:cl.code[p]?=some ⟨5,on,a,b,cc,d,n⟩) (hw:w.words[on]?=some l) (hb:r b=vb) (hq:(vb+n)%18446744073709551616=q) (hcc:r cc=vc) (hv:l[q]?=some v) (hne:¬ v=vc) (ho:onF f (T cs c (p+1) (upd r a 0) pre said)=some t') :
  opF f w (T cs c p r pre said)=some (w,t'):=by
 have hr:w.row on=l:=by unfold Wd.row;rw [List.getD_eq_getElem?_getD,hw];rfl
 have hg:l.getD q 0=v:=by rw [List.getD_eq_getElem?_getD,hv];rfl
 have hop:op1 ⟨5,on,a,b,cc,d,n⟩ l q r=(l,upd r a 0):=by
  show (if l.getD q 0=r cc then (l.set q (r d),upd r a 1) else (l,upd r a 0))=_
  rw [if_neg (by rw [hg,hcc];exact hne)]
 subst hb
 have e:w.words.set on l=w.words:=by
  apply List.ext_getElem?
  intro i
  rw [List.getElem?_set]
  split
  ·rename_i hi;subst hi;rw [if_pos (List.getElem?_eq_some_iff.1 hw).1,hw]
  ·rfl
 rw [bnj (f:=f) (t':=t') (pre:=pre) (said:=said) (r:=r) hc h hr hq (List.getElem?_eq_some_iff.1 hv).1 (by rw [hop];exact ho),hop]
 show some (({ w with words:=w.words.set on l }:Wd),t')=_
 rw [e]
theorem jw_ (hc:cs[c]?=some cl) (h:cl.code[p]?=some ⟨5,on,a,b,cc,d,n⟩) (hw:w.words[on]?=some l) (hb:r b=vb) (hq:(vb+n)%18446744073709551616=q) (hcc:r cc=vc) (hv:l[q]?=some v) (hne:¬ v=vc) (ho:onF f (T cs c (p+1) (upd r a 0) pre said)=some t'):Op f w (T cs c p r pre said) (5,q) (w) t':=Op.of hc h (by rw [← hb] at hq;exact hq) (cbw hc h hw hb hq hcc hv hne ho)
end
theorem cgx {f g:Nat} {w w':Wd} {t t1:Th} {m:Nat × Nat} {ms:List (Nat × Nat)} {res:Wd × Th × List (Nat × Nat)} (h:Op f w t m w' t1) (k:soloF f g w' t1 (ms++[m])=some res):soloF f (g+1) w t ms=some res :=
 cgw h.over h.on (by rw [h.mark];exact k)
def Comes (f g:Nat) (w:Wd) (cl:Cl) (w':Wd) (said:List Nat) (ms:List (Nat × Nat)):Prop:=∃ st t,play f g w [] [[cl]]=some st∧st.w=w'∧st.l=[t]∧t.ans=[(true,said)]∧st.tr=ms.map fun m=>(0,m)
theorem cdc {f g:Nat} {w w':Wd} {cl:Cl} {said:List Nat} {ms:List (Nat × Nat)} {t:Th} (h0:onF (f+1) (T [cl] 0 0 (fun _=>0) [] [])=some t) (h:soloF (f+1) g w t []=some (w',{ Bt [cl] 1 [(true,said)] with over:=true },ms)) (hl:ms.length≤16384):Comes (f+1) g w cl w' said ms :=
 ⟨_,_,btm (t:=t) ((on_begin (cs:=[cl]) (c:=0) (pre:=[]) rfl rfl).trans h0) h hl,rfl,rfl,rfl,rfl⟩
inductive Runs (f:Nat):Wd→Th→List (Nat × Nat)→Wd→Th→Prop
 | nil {w:Wd} {t:Th}:Runs f w t [] w t
 | cons {w w1 w2:Wd} {t t1 t2:Th} {m:Nat × Nat} {ms:List (Nat × Nat)}:Op f w t m w1 t1→Runs f w1 t1 ms w2 t2→Runs f w t (m::ms) w2 t2
theorem Runs.solo {f:Nat} {w w':Wd} {t t':Th} {ms:List (Nat × Nat)} (a:Runs f w t ms w' t') (ho:t'.over=true):∀ ms0,soloF f (ms.length+1) w t ms0=some (w',t',ms0++ms):=by
 induction a with
 | nil=>intro ms0;rw [List.append_nil];exact bzx ho
 | cons h _ ih =>
  intro ms0
  refine cgx h ?_
  refine (ih ho _).trans ?_
  rw [List.append_assoc];rfl
theorem comes_runs {f:Nat} {w w':Wd} {cl:Cl} {said:List Nat} {ms:List (Nat × Nat)} {t:Th} (h0:onF (f+1) (T [cl] 0 0 (fun _=>0) [] [])=some t) (h:Runs (f+1) w t ms w' { Bt [cl] 1 [(true,said)] with over:=true }) (hl:ms.length≤16384):Comes (f+1) (ms.length+1) w cl w' said ms :=
 cdc h0 (h.solo rfl []) hl
end
end Go.PB.Mach
namespace Go.Proofs.Ytnnpdmhmpgmpnaa
open Go Go.PB
attribute [local irreducible] Mo Bin Eql Tr Wo
section
variable {B:Hand} [Lets B] {L:List HProp} {x:B.X}
theorem bst {n k:Int} (hk:0<k):(n.tmod k<0→n.tmod k+k=n%k)∧(¬ n.tmod k<0→n.tmod k=n%k):=by
 have h1:=Int.emod_nonneg n (by omega:k≠0)
 have h2:=Int.emod_lt_of_pos n hk
 have h3:n.tmod k=n%k-((if 0≤n∨k ∣ n then 0 else k.natAbs:Nat):Int):=Int.tmod_eq_emod
 have h4:=Int.tmod_lt_of_pos n hk
 split at h3
 ·constructor <;> intro h5 <;> omega
 ·rename_i hn
  have h6:n%k≠0:=fun h=>hn (.inr (Int.dvd_of_emod_eq_zero h))
  constructor <;> intro h5 <;> omega
theorem bsn {n k:Int} (hn:-9223372036854775808≤n∧n≤9223372036854775807) (hk:0<k∧k≤1000000) :
  Tr Try.prog B 28 [.int .i64 n,.int .i64 k] L x fun v L' x'=>v=.int .i64 (n%k)∧L'=L∧x'=x:=by
 have ht:=bst (n:=n) hk.1
 have h1:=Int.emod_nonneg n (by omega:k≠0)
 have h2:=Int.emod_lt_of_pos n hk.1
 have hlt:=Int.tmod_lt_of_pos n hk.1
 obtain ⟨m,hm⟩:∃ m,n%k=m:=⟨_,rfl⟩
 obtain ⟨t,hte⟩:∃ t,n.tmod k=t:=⟨_,rfl⟩
 rw [hm] at ht h1 h2
 rw [hte] at ht hlt
 rw [hm]
 by_cases hneg:t<0
 ·have e:=ht.1 hneg
  refine bd_ Try.func28 rfl Try.ntmps28 (by simp) fun um Q _ hQ=>?_
  simp only [argE,Nat.zero_add,Nat.reduceAdd]
  repeat (first | (apply wo_po;apply bu_;exact rfl;exact rfl;apply wt_;omega;exact hte;exact trivial) | refine wlssT ?_ | refine bb_ ?_ | (refine wR ?_;try simp only [oS]) | refine ba_ ?_ | refine wM ?_ | refine wA ?_ | refine wadd ?_ | refine wT ?_ | refine bn_ ?_)
  (first | refine or1 Try.func28 Try.results28 hQ rfl ?_ | refine on1 Try.func28 Try.results28 hQ rfl ?_)
  exact ⟨by rw [e],rfl,rfl⟩
 ·have e:=ht.2 hneg
  refine bd_ Try.func28 rfl Try.ntmps28 (by simp) fun um Q _ hQ=>?_
  simp only [argE,Nat.zero_add,Nat.reduceAdd]
  repeat (first | (apply wo_po;apply bu_;exact rfl;exact rfl;apply wt_;omega;exact hte;exact trivial) | refine wlssF ?_ | refine bb_ ?_ | (refine wR ?_;try simp only [oS]) | refine ba_ ?_ | refine wM ?_ | refine wA ?_ | refine wF ?_ | refine bn_ ?_ | refine bk_ ?_)
  (first | refine or1 Try.func28 Try.results28 hQ rfl ?_ | refine on1 Try.func28 Try.results28 hQ rfl ?_)
  exact ⟨by rw [e],rfl,rfl⟩
def bcz (x:B.X) (L:List HProp) (a a':Option Addr) (n c c':Nat) (l l':List Nat):Inv Nat B.X where
 e:=fun i=>[(0,.slice a n c),(1,.slice a' n c'),(5,.int .i64 i)]
 L:=fun _=>L
 x:=fun _=>x
 ok:=fun i=>i≤n∧l.take i=l'.take i
theorem qo_ {a a':Option Addr} {n n' c c':Nat} {l l':List Nat} (hn:n=l.length) (hn':n'=l'.length) (hl:n<1000000000) (h1:RdV L a l) (h2:RdV L a' l') :
  Tr Try.prog B 41 [.slice a n c,.slice a' n' c'] L x fun v L' x'=>v=.bool (decide (l=l'))∧L'=L∧x'=x:=by
 by_cases hlen:n=n'
 ·subst hlen
  refine bd_ Try.func41 rfl Try.ntmps41 (by simp) fun um Q _ hQ=>?_
  simp only [argE,Nat.zero_add,Nat.reduceAdd]
  repeat (first | refine wneqF ?_ | refine bb_ ?_ | (refine wR ?_;try simp only [oS]) | refine ba_ ?_ | refine wM ?_ | refine wA ?_ | refine wE ?_ | refine wF ?_ | refine bk_ ?_ | refine bf_ ?_)
  refine de_ (bcz x L a a' n c c' l l') (fun i=>n-i) 0 ⟨by omega,by simp⟩ ⟨rfl,rfl,rfl,trivial⟩ .refl rfl ?_
  rintro i ⟨hi,ht⟩
  dsimp only [bcz] at hi ht ⊢
  by_cases hc:i<n
  ·obtain ⟨v,hv⟩:∃ v,l[i]?=some v:=⟨l[i]'(by omega),by simp⟩
   obtain ⟨v',hv'⟩:∃ v,l'[i]?=some v:=⟨l'[i]'(by omega),by simp⟩
   obtain ⟨b1,o1,rfl,r1⟩:=h1 i v hv
   obtain ⟨b2,o2,rfl,r2⟩:=h2 i v' hv'
   by_cases he:v=v'
   ·have he':(v:Int)=v':=by omega
    repeat (first | refine wlssT ?_ | refine bb_ ?_ | (refine wR ?_;try simp only [oS]) | refine ba_ ?_ | refine wM ?_ | refine wE ?_ | refine wT ?_ | refine bk_ ?_ | refine bf_ ?_)
    refine br_ [0,1,2,3,4,5,6,7,8] (by kernel_rfl) ?_
    repeat (first | (apply be_;exact rfl;exact rfl;exact trivial;intro L;apply cb_ (r:=o1+i);exact rfl;exact rfl;omega;omega;omega) | (apply be_;exact rfl;exact rfl;exact trivial;intro L;apply cb_ (r:=o2+i);exact rfl;exact rfl;omega;omega;omega) | (apply bj_;exact rfl;exact rfl;exact trivial;apply bc_;exact rfl;exact r1) | (apply bj_;exact rfl;exact rfl;exact trivial;apply bc_;exact rfl;exact r2) | (apply be_;exact rfl;exact rfl;exact trivial;intro L;apply bu_;exact rfl;exact rfl;apply yt_;omega) | refine aM ?_ | refine bz_ ?_)
    repeat (first | (refine wR ?_;try simp only [oS]) | refine ba_ ?_ | refine wM ?_ | refine wA ?_ | refine wadd ?_ | refine wF ?_ | refine bk_ ?_)
    refine dr_ (I:=bcz x L _ _ n c c' l l') (R:=fun i'=>n-i'<n-i) (i+1) (by omega) ⟨by omega,?_⟩ ⟨rfl,rfl,rfl,trivial⟩ .refl rfl
    rw [List.take_add_one,List.take_add_one,ht,hv,hv',he]
   ·have he':¬ (v:Int)=v':=by omega
    repeat (first | refine wlssT ?_ | refine bb_ ?_ | (refine wR ?_;try simp only [oS]) | refine ba_ ?_ | refine wM ?_ | refine wE ?_ | refine wT ?_ | refine bk_ ?_ | refine bf_ ?_)
    refine br_ [0,1,2,3,4,5,6,7,8] (by kernel_rfl) ?_
    repeat (first | (apply be_;exact rfl;exact rfl;exact trivial;intro L;apply cb_ (r:=o1+i);exact rfl;exact rfl;omega;omega;omega) | (apply be_;exact rfl;exact rfl;exact trivial;intro L;apply cb_ (r:=o2+i);exact rfl;exact rfl;omega;omega;omega) | (apply bj_;exact rfl;exact rfl;exact trivial;apply bc_;exact rfl;exact r1) | (apply bj_;exact rfl;exact rfl;exact trivial;apply bc_;exact rfl;exact r2) | (apply be_;exact rfl;exact rfl;exact trivial;intro L;apply bu_;exact rfl;exact rfl;apply tr_;omega) | refine aM ?_ | refine bz_ ?_)
    repeat (first | refine bb_ ?_ | (refine wR ?_;try simp only [oS]) | refine ba_ ?_ | refine wA ?_ | refine wT ?_ | refine bn_ ?_)
    (first | refine or1 Try.func41 Try.results41 hQ rfl ?_ | refine on1 Try.func41 Try.results41 hQ rfl ?_)
    have:l≠l':=fun h=>he (by rw [h,hv'] at hv;cases hv;rfl)
    exact ⟨by rw [decide_eq_false this],rfl,rfl⟩
  ·repeat (first | refine wlssF ?_ | refine bb_ ?_ | (refine wR ?_;try simp only [oS]) | refine ba_ ?_ | refine wM ?_ | refine wA ?_ | refine wE ?_ | refine wF ?_ | refine bn_ ?_ | refine cu_ ?_)
   (first | refine or1 Try.func41 Try.results41 hQ rfl ?_ | refine on1 Try.func41 Try.results41 hQ rfl ?_)
   have:l=l':=by
    rw [List.take_of_length_le (by omega),List.take_of_length_le (by omega)] at ht
    exact ht
   exact ⟨by rw [decide_eq_true this],rfl,rfl⟩
 ·have hne:¬ (n:Int)=n':=by omega
  refine bd_ Try.func41 rfl Try.ntmps41 (by simp) fun um Q _ hQ=>?_
  simp only [argE,Nat.zero_add,Nat.reduceAdd]
  repeat (first | refine wneqT ?_ | refine bb_ ?_ | (refine wR ?_;try simp only [oS]) | refine ba_ ?_ | refine wM ?_ | refine wA ?_ | refine wE ?_ | refine wT ?_ | refine bn_ ?_)
  (first | refine or1 Try.func41 Try.results41 hQ rfl ?_ | refine on1 Try.func41 Try.results41 hQ rfl ?_)
  have:l≠l':=fun h=>hlen (by rw [hn,hn',h])
  exact ⟨by rw [decide_eq_false this],rfl,rfl⟩
end
end Go.Proofs.Ytnnpdmhmpgmpnaa
namespace Go.Proofs.Ytnnpdmhmpgmpnaa
open Go Go.PB
attribute [local irreducible] Mo Bin Eql Tr Wo Ap
section
variable {B:Hand} [Lets B] {L F:List HProp} {x:B.X}
theorem cgp {n:Nat} (hn:n≤30):Tr Try.prog B 101 [.int .i64 n] L x fun v L' x'=>v=.bool (Mach.told n)∧L'=L∧x'=x:=by
 by_cases h1:1≤n
 ·by_cases h2:n≤5
  ·refine bd_ Try.func101 rfl Try.ntmps101 (by simp) fun um Q _ hQ=>?_
   simp only [argE,Nat.zero_add,Nat.reduceAdd]
   repeat (first | refine wleqT ?_ | refine wgeqT ?_ | refine bb_ ?_ | (refine wR ?_;try simp only [oS]) | refine ba_ ?_ | refine wM ?_ | refine wA ?_ | refine wK ?_ | refine bn_ ?_)
   (first | refine or1 Try.func101 Try.results101 hQ rfl ?_ | refine on1 Try.func101 Try.results101 hQ rfl ?_)
   exact ⟨by simp [Mach.told,h1,h2],rfl,rfl⟩
  ·refine bd_ Try.func101 rfl Try.ntmps101 (by simp) fun um Q _ hQ=>?_
   simp only [argE,Nat.zero_add,Nat.reduceAdd]
   repeat (first | refine wleqF ?_ | refine wgeqT ?_ | refine bb_ ?_ | (refine wR ?_;try simp only [oS]) | refine ba_ ?_ | refine wM ?_ | refine wA ?_ | refine wK ?_ | refine bn_ ?_)
   (first | refine or1 Try.func101 Try.results101 hQ rfl ?_ | refine on1 Try.func101 Try.results101 hQ rfl ?_)
   exact ⟨by simp [Mach.told,h1,h2],rfl,rfl⟩
 ·refine bd_ Try.func101 rfl Try.ntmps101 (by simp) fun um Q _ hQ=>?_
  simp only [argE,Nat.zero_add,Nat.reduceAdd]
  repeat (first | refine wgeqF ?_ | refine bb_ ?_ | (refine wR ?_;try simp only [oS]) | refine ba_ ?_ | refine wM ?_ | refine wA ?_ | (apply wo_no;exact rfl) | refine wJ ?_ | refine bn_ ?_)
  (first | refine or1 Try.func101 Try.results101 hQ rfl ?_ | refine on1 Try.func101 Try.results101 hQ rfl ?_)
  exact ⟨by simp [Mach.told,h1],rfl,rfl⟩
theorem chx {n:Nat} (hn:1≤n∧n≤5):Tr Try.prog B 103 [.int .i64 n] L x fun v L' x'=>v=.int .u8 n∧L'=L∧x'=x:=by
 have:n=1∨n=2∨n=3∨n=4∨n=5:=by omega
 rcases this with rfl | rfl | rfl | rfl | rfl
 ·refine bd_ Try.func103 rfl Try.ntmps103 (by simp) fun um Q _ hQ=>?_
  simp only [argE,Nat.zero_add,Nat.reduceAdd]
  repeat (first | refine weqlT ?_ | refine bb_ ?_ | (refine wR ?_;try simp only [oS]) | refine ba_ ?_ | refine wM ?_ | refine wA ?_ | refine wT ?_ | refine bn_ ?_ | refine bf_ ?_)
  (first | refine or1 Try.func103 Try.results103 hQ rfl ?_ | refine on1 Try.func103 Try.results103 hQ rfl ?_)
  exact ⟨rfl,rfl,rfl⟩
 ·refine bd_ Try.func103 rfl Try.ntmps103 (by simp) fun um Q _ hQ=>?_
  simp only [argE,Nat.zero_add,Nat.reduceAdd]
  repeat (first | refine weqlT ?_ | refine weqlF ?_ | refine bb_ ?_ | (refine wR ?_;try simp only [oS]) | refine ba_ ?_ | refine wM ?_ | refine wA ?_ | refine wT ?_ | refine wF ?_ | refine bn_ ?_ | refine bf_ ?_)
  (first | refine or1 Try.func103 Try.results103 hQ rfl ?_ | refine on1 Try.func103 Try.results103 hQ rfl ?_)
  exact ⟨rfl,rfl,rfl⟩
 ·refine bd_ Try.func103 rfl Try.ntmps103 (by simp) fun um Q _ hQ=>?_
  simp only [argE,Nat.zero_add,Nat.reduceAdd]
  repeat (first | refine weqlT ?_ | refine weqlF ?_ | refine bb_ ?_ | (refine wR ?_;try simp only [oS]) | refine ba_ ?_ | refine wM ?_ | refine wA ?_ | refine wT ?_ | refine wF ?_ | refine bn_ ?_ | refine bf_ ?_)
  (first | refine or1 Try.func103 Try.results103 hQ rfl ?_ | refine on1 Try.func103 Try.results103 hQ rfl ?_)
  exact ⟨rfl,rfl,rfl⟩
 ·refine bd_ Try.func103 rfl Try.ntmps103 (by simp) fun um Q _ hQ=>?_
  simp only [argE,Nat.zero_add,Nat.reduceAdd]
  repeat (first | refine weqlT ?_ | refine weqlF ?_ | refine bb_ ?_ | (refine wR ?_;try simp only [oS]) | refine ba_ ?_ | refine wM ?_ | refine wA ?_ | refine wT ?_ | refine wF ?_ | refine bn_ ?_ | refine bf_ ?_)
  (first | refine or1 Try.func103 Try.results103 hQ rfl ?_ | refine on1 Try.func103 Try.results103 hQ rfl ?_)
  exact ⟨rfl,rfl,rfl⟩
 ·refine bd_ Try.func103 rfl Try.ntmps103 (by simp) fun um Q _ hQ=>?_
  simp only [argE,Nat.zero_add,Nat.reduceAdd]
  repeat (first | refine weqlF ?_ | refine bb_ ?_ | (refine wR ?_;try simp only [oS]) | refine ba_ ?_ | refine wM ?_ | refine wA ?_ | refine wF ?_ | refine bn_ ?_ | refine bk_ ?_ | refine bf_ ?_)
  (first | refine or1 Try.func103 Try.results103 hQ rfl ?_ | refine on1 Try.func103 Try.results103 hQ rfl ?_)
  exact ⟨rfl,rfl,rfl⟩
end
section
variable {B:Hand} [Lets B] {L F:List HProp} {x:B.X}
def inC (x:Mach.In):List Value:=[.int .i64 (x.op:Nat),.int .i64 (x.on:Nat),.int .i64 (x.a:Nat),.int .i64 (x.b:Nat),.int .i64 (x.c:Nat),.int .i64 (x.d:Nat),.int .u64 (x.n:Nat)]
theorem brc {tb cb co ncalls ccap call pc kc:Nat} {kp:Option Addr} {code:List Mach.In} (r0:Rd L tb 0 (.slice (some ⟨cb,co,none⟩) ncalls ccap)) (r1:Rd L tb 1 (.int .i64 call)) (r2:Rd L tb 2 (.int .i64 pc)) (hcall:call<ncalls)
  (rc:Rd L cb (co+2*call) (.slice kp code.length kc)) (rk:∀ y,code[pc]?=some y→∃ kb ko,kp=some ⟨kb,ko,none⟩∧Rds L kb (ko+7*pc) (inC y)) :
  Tr Try.prog B 100 [.pointer (some ⟨tb,0,none⟩)] L x fun v L' x'=>v=.agg (inC (code.getD pc Mach.fin)).toArray∧L'=L∧x'=x:=by
 refine Tr.post (R:=fun v L' x'=>∃ c,v=.agg (inC (code.getD pc Mach.fin)).toArray∧L'=c::L∧x'=x) ?_ (by rintro v L' x' ⟨c,rfl,rfl,rfl⟩;exact ⟨L,⟨rfl,rfl,rfl⟩,fun h s=>bs_ s⟩)
 by_cases hc:pc<code.length
 ·obtain ⟨y,hy⟩:∃ y,code[pc]?=some y:=⟨code[pc]'hc,by simp [hc]⟩
  obtain ⟨kb,ko,rfl,hr⟩:=rk y hy
  refine bd_ Try.func100 rfl Try.ntmps100 (by simp) fun um Q _ hQ=>?_
  simp only [argE,Nat.zero_add,Nat.reduceAdd]
  repeat (first | (apply wo_mo;apply ck_;exact trivial) | refine bb_ ?_ | (refine wR ?_;try simp only [oS]))
  rintro v' L' ⟨rb,rfl,rfl⟩
  repeat (first | refine bb_ ?_ | refine ba_ ?_)
  refine br_ [0,1,2,3,4,5,6,7,8,9,10,11] (by kernel_rfl) ?_
  repeat (first | (apply bj_;exact rfl;exact rfl;exact trivial;apply bc_;exact rfl;exact Rd.there r0) | (apply bj_;exact rfl;exact rfl;exact trivial;apply bc_;exact rfl;exact Rd.there r1) | (apply bj_;exact rfl;exact rfl;exact trivial;apply bc_;exact rfl;exact Rd.there rc) | (apply be_;exact rfl;exact rfl;exact trivial;intro L;apply cb_ (r:=co+2*call);exact rfl;exact rfl;omega;omega;omega) | refine aM ?_ | refine aA ?_ | refine aN ?_ | refine aD ?_ | refine bz_ ?_)
  repeat (first | (apply wo_po;apply bc_;exact rfl;exact Rd.there r2;exact gY) | (apply wo_po;apply cb_ (r:=ko+7*pc);exact rfl;exact rfl;omega;omega;omega;exact trivial) | (apply wo_po;apply cc_ (vs:=inC y);exact rfl;exact rfl;exact fun i v hi=>Rd.there (hr i v hi);exact trivial) | refine wlssF ?_ | refine wgeqF ?_ | refine bb_ ?_ | (refine wR ?_;try simp only [oS]) | refine ba_ ?_ | refine wM ?_ | refine wJ ?_ | refine wN ?_ | refine wD ?_ | refine wE ?_ | refine wF ?_ | refine bk_ ?_)
  repeat (first | (apply wo_pm;apply bw_ (c:=0) (k:=0) (a:=0) (vs:=inC { op:=0 }) (v:=.agg (inC y).toArray);exact rfl;exact rfl;exact rfl;(intro w hw;simp [Value.cells,inC] at hw;rcases hw with rfl | rfl | rfl | rfl | rfl | rfl | rfl <;> rfl);exact rfl;exact Nat.le_refl 7;exact .here;exact trivial) | refine ba_ ?_ | refine bn_ ?_)
  refine cp_ (rs:=[.cell 2 201]) Try.func100 Try.results100 hQ (.inl rfl) (.cons (.cell (vs:=inC y) rfl rfl (Rds.all .here)) .nil) ?_
  exact ⟨_,by simp [packR,hy],rfl,rfl⟩
 ·refine bd_ Try.func100 rfl Try.ntmps100 (by simp) fun um Q _ hQ=>?_
  simp only [argE,Nat.zero_add,Nat.reduceAdd]
  repeat (first | (apply wo_mo;apply ck_;exact trivial) | refine bb_ ?_ | (refine wR ?_;try simp only [oS]))
  rintro v' L' ⟨rb,rfl,rfl⟩
  repeat (first | refine bb_ ?_ | refine ba_ ?_)
  refine br_ [0,1,2,3,4,5,6,7,8,9,10,11] (by kernel_rfl) ?_
  repeat (first | (apply bj_;exact rfl;exact rfl;exact trivial;apply bc_;exact rfl;exact Rd.there r0) | (apply bj_;exact rfl;exact rfl;exact trivial;apply bc_;exact rfl;exact Rd.there r1) | (apply bj_;exact rfl;exact rfl;exact trivial;apply bc_;exact rfl;exact Rd.there rc) | (apply be_;exact rfl;exact rfl;exact trivial;intro L;apply cb_ (r:=co+2*call);exact rfl;exact rfl;omega;omega;omega) | refine aM ?_ | refine aA ?_ | refine aN ?_ | refine aD ?_ | refine bz_ ?_)
  repeat (first | (apply wo_po;apply bc_;exact rfl;exact Rd.there r2;exact gY) | refine wlssF ?_ | refine wgeqT ?_ | refine bb_ ?_ | (refine wR ?_;try simp only [oS]) | refine ba_ ?_ | refine wM ?_ | refine wJ ?_ | refine wN ?_ | refine wD ?_ | refine wE ?_ | refine wT ?_)
  repeat (first | (apply wo_po;apply dq_ (pv:=[(0,_)]);exact rfl;exact .cons rfl .nil;exact rfl;exact trivial) | (apply wo_pm;apply bw_ (c:=0) (k:=0) (a:=0) (vs:=inC { op:=0 }) (v:=.agg (inC Mach.fin).toArray);exact rfl;exact rfl;exact rfl;(intro w hw;simp [Value.cells,inC] at hw;rcases hw with rfl | rfl | rfl | rfl | rfl | rfl | rfl <;> rfl);exact rfl;exact Nat.le_refl 7;exact .here;exact trivial) | refine ba_ ?_ | refine bn_ ?_)
  refine cp_ (rs:=[.cell 2 201]) Try.func100 Try.results100 hQ (.inl rfl) (.cons (.cell (vs:=inC Mach.fin) rfl rfl (Rds.all .here)) .nil) ?_
  exact ⟨_,by simp [packR,hc],rfl,rfl⟩
end
end Go.Proofs.Ytnnpdmhmpgmpnaa
namespace Go.PB
variable {P:Program} {e:Env} {L:List HProp} {ty:TypeId}
def bh_ (cv:Value) (t:Mach.Th) (av:Value):List Value:=[cv,.int .i64 (t.call:Nat),.int .i64 (t.pc:Nat)]++((List.range 24).map (fun i=>num (t.r i))++[av,.bool t.over])
theorem db_ {cv av:Value} {t:Mach.Th}:(bh_ cv t av).length=29:=by simp [bh_]
theorem bgm {cv av:Value} {t:Mach.Th} {i:Nat} (h:i<24):(bh_ cv t av)[3+i]?=some (num (t.r i)):=by
 unfold bh_
 rw [List.getElem?_append_right (by simp),List.getElem?_append_left (by simp;omega)]
 simp [h]
theorem da_ {cv av:Value} {t:Mach.Th} {a v:Nat} (h:a<24):(bh_ cv t av).set (3+a) (num v)=bh_ cv { t with r:=upd t.r a v } av:=by
 unfold bh_
 rw [List.set_append_right _ _ (by simp),List.set_append_left _ _ (by simp;omega)]
 congr 2
 apply List.ext_getElem?
 intro i
 rw [List.getElem?_set]
 simp only [List.length_cons,List.length_nil,List.length_map,List.length_range,List.getElem?_map]
 by_cases e:3+a-(0+1+1+1)=i
 ·obtain rfl:i=a:=by omega
  simp [h,upd]
 ·rw [if_neg e]
  by_cases hi:i<24
  ·simp [hi,upd,show ¬ i=a by omega]
  ·simp [hi]
theorem xu_ {tb:Nat} {cv av:Value} {t:Mach.Th} {F:List HProp} (hh:Has L (arr tb 0 (bh_ cv t av)) F) {i:Nat} (h:i<24):Rd L tb (3+i) (num (t.r i)) :=
 Rd.of hh (Rd.row (k:=3+i) (bgm h) (by omega))
end Go.PB
namespace Go.Proofs.Ytnnpdmhmpgmpnaa
open Go Go.PB
attribute [local irreducible] Mo Bin Eql Tr Wo Ap
variable {B:Hand} [Lets B] {L F:List HProp} {x:B.X}
set_option maxHeartbeats 4000000 in
theorem bnc {tb:Nat} {w cv av:Value} {t:Mach.Th} {i:Mach.In} (hop:6≤i.op∧i.op≤16) (hi:i.ok=true) (hr:∀ j,t.r j<18446744073709551616) (hpc:t.pc<1000000) (hh:Has L (arr tb 0 (bh_ cv t av)) F) :
  Tr Try.prog B 102 [.pointer (some ⟨tb,0,none⟩),w,.agg (inC i).toArray] L x fun v L' x'=>v=.tuple #[]∧L'=arr tb 0 (bh_ cv (Mach.own t i) av)::F∧x'=x:=by
 refine dw_ _ (fun h s=>hh.star s) ?_
 clear hh
 refine Tr.post (R:=fun v L' x'=>∃ c,v=.tuple #[]∧L'=c::arr tb 0 (bh_ cv (Mach.own t i) av)::F∧x'=x) ?_ (by rintro v L' x' ⟨c,rfl,rfl,rfl⟩;exact ⟨_,⟨rfl,rfl,rfl⟩,fun h s=>bs_ s⟩)
 obtain ⟨op,on,a,b,c,d,n⟩:=i
 simp only [Mach.In.ok,Bool.and_eq_true,decide_eq_true_eq,Bool.or_eq_true,Bool.not_eq_true',decide_eq_false_iff_not] at hi hop
 obtain ⟨⟨⟨⟨⟨⟨⟨⟨⟨⟨_,_⟩,ha⟩,hb⟩,hc⟩,hd⟩,hon⟩,hn⟩,_⟩,_⟩,hsh⟩:=hi
 have hops:op=6∨op=7∨op=8∨op=9∨op=10∨op=11∨op=12∨op=13∨op=14∨op=15∨op=16:=by omega
 have hregs:∀ {e:HProp},∀ j,j<24→Rd (e::arr tb 0 (bh_ cv { t with pc:=t.pc+1 } av)::F) tb (3+j) (num (t.r j)):=fun {e} j h=>xu_ (t:={ t with pc:=t.pc+1 }) (.there .here) h
 have vb:=hr b
 have vc:=hr c
 rcases hops with rfl | rfl | rfl | rfl | rfl | rfl | rfl | rfl | rfl | rfl | rfl
 ·refine bd_ Try.func102 rfl Try.ntmps102 (by simp) fun um Q _ hQ=>?_
  simp only [argE,Nat.zero_add,Nat.reduceAdd]
  repeat (first | (apply wo_mo;apply ct_;exact rfl;exact trivial) | refine bb_ ?_ | (refine wR ?_;try simp only [oS]))
  rintro v' L' ⟨xb,rfl,rfl⟩
  repeat (first | refine wS ?_ | refine weqlT ?_ | refine bb_ ?_ | (refine wR ?_;try simp only [oS]) | refine ba_ ?_ | refine wM ?_ | refine wA ?_ | refine wN ?_ | refine wD ?_ | refine wL ?_ | refine wadd ?_ | refine wT ?_ | refine bf_ ?_)
  refine dy_ (arr xb 0 (inC ⟨6,on,a,b,c,d,n⟩)::arr tb 0 (bh_ cv { t with pc:=t.pc+1 } av)::F) .refl ?_
  refine br_ (List.range' 0 8) (by kernel_rfl) ?_
  have hreg:=@hregs (arr xb 0 (inC ⟨6,on,a,b,c,d,n⟩))
  repeat (first | (apply be_;exact rfl;exact rfl;exact trivial;intro L;apply bt_;exact rfl;exact rfl;omega) | refine aM ?_ | refine aN ?_ | refine aD ?_ | refine aL ?_)
  refine cg_ rfl rfl rfl rfl rfl trivial (cq_ rfl rfl rfl (Wt.row0 (k:=3+a) (vs:=bh_ cv { t with pc:=t.pc+1 } av) (.there .here) (by rw [db_];omega))) ?_
  rintro v' L' ⟨rfl,rfl⟩
  refine bz_ ?_
  refine fk_ (arr xb 0 (inC ⟨6,on,a,b,c,d,n⟩)::arr tb 0 (bh_ cv (Mach.own t ⟨6,on,a,b,c,d,n⟩) av)::F) (fd_ (by rw [show (Value.int .u64 (n:Int))=num (n%18446744073709551616) by rw [Nat.mod_eq_of_lt hn];rfl,da_ ha];rfl)) ?_
  skip
  (first | refine or0 Try.func102 Try.results102 hQ ?_ | refine on0 Try.func102 Try.results102 hQ ?_)
  exact ⟨_,rfl,rfl,rfl⟩
 ·refine bd_ Try.func102 rfl Try.ntmps102 (by simp) fun um Q _ hQ=>?_
  simp only [argE,Nat.zero_add,Nat.reduceAdd]
  repeat (first | (apply wo_mo;apply ct_;exact rfl;exact trivial) | refine bb_ ?_ | (refine wR ?_;try simp only [oS]))
  rintro v' L' ⟨xb,rfl,rfl⟩
  repeat (first | refine wS ?_ | refine weqlT ?_ | refine weqlF ?_ | refine bb_ ?_ | (refine wR ?_;try simp only [oS]) | refine ba_ ?_ | refine wM ?_ | refine wA ?_ | refine wN ?_ | refine wD ?_ | refine wL ?_ | refine wadd ?_ | refine wT ?_ | refine wF ?_ | refine bf_ ?_)
  refine dy_ (arr xb 0 (inC ⟨7,on,a,b,c,d,n⟩)::arr tb 0 (bh_ cv { t with pc:=t.pc+1 } av)::F) .refl ?_
  refine br_ (List.range' 0 12) (by kernel_rfl) ?_
  have hreg:=@hregs (arr xb 0 (inC ⟨7,on,a,b,c,d,n⟩))
  repeat (first | (apply be_;exact rfl;exact rfl;exact trivial;intro L;apply bt_;exact rfl;exact rfl;omega) | (apply bj_;exact rfl;exact rfl;exact trivial;apply bc_;exact rfl;exact hreg _ hb) | refine aM ?_ | refine aN ?_ | refine aD ?_ | refine aL ?_)
  refine cg_ rfl rfl rfl rfl rfl trivial (cq_ rfl rfl rfl (Wt.row0 (k:=3+a) (vs:=bh_ cv { t with pc:=t.pc+1 } av) (.there .here) (by rw [db_];omega))) ?_
  rintro v' L' ⟨rfl,rfl⟩
  refine bz_ ?_
  refine fk_ (arr xb 0 (inC ⟨7,on,a,b,c,d,n⟩)::arr tb 0 (bh_ cv (Mach.own t ⟨7,on,a,b,c,d,n⟩) av)::F) (fd_ (by rw [show num (t.r b)=num (t.r b%18446744073709551616) by rw [Nat.mod_eq_of_lt vb],da_ ha];rfl)) ?_
  skip
  (first | refine or0 Try.func102 Try.results102 hQ ?_ | refine on0 Try.func102 Try.results102 hQ ?_)
  exact ⟨_,rfl,rfl,rfl⟩
 ·refine bd_ Try.func102 rfl Try.ntmps102 (by simp) fun um Q _ hQ=>?_
  simp only [argE,Nat.zero_add,Nat.reduceAdd]
  repeat (first | (apply wo_mo;apply ct_;exact rfl;exact trivial) | refine bb_ ?_ | (refine wR ?_;try simp only [oS]))
  rintro v' L' ⟨xb,rfl,rfl⟩
  repeat (first | refine wS ?_ | refine weqlT ?_ | refine weqlF ?_ | refine bb_ ?_ | (refine wR ?_;try simp only [oS]) | refine ba_ ?_ | refine wM ?_ | refine wA ?_ | refine wN ?_ | refine wD ?_ | refine wL ?_ | refine wadd ?_ | refine wT ?_ | refine wF ?_ | refine bf_ ?_)
  refine dy_ (arr xb 0 (inC ⟨8,on,a,b,c,d,n⟩)::arr tb 0 (bh_ cv { t with pc:=t.pc+1 } av)::F) .refl ?_
  refine br_ (List.range' 0 22) (by kernel_rfl) ?_
  have hreg:=@hregs (arr xb 0 (inC ⟨8,on,a,b,c,d,n⟩))
  repeat (first | (apply be_;exact rfl;exact rfl;exact trivial;intro L;apply bt_;exact rfl;exact rfl;omega) | (apply bj_;exact rfl;exact rfl;exact trivial;apply bc_;exact rfl;exact hreg _ hb) | (apply bj_;exact rfl;exact rfl;exact trivial;apply bc_;exact rfl;exact hreg _ hc) | (apply be_;exact rfl;exact rfl;exact trivial;intro L;apply bu_;exact rfl;exact rfl;apply gb_;exact wm_) | refine aM ?_ | refine aN ?_ | refine aD ?_ | refine aL ?_)
  refine cg_ rfl rfl rfl rfl rfl trivial (cq_ rfl rfl rfl (Wt.row0 (k:=3+a) (vs:=bh_ cv { t with pc:=t.pc+1 } av) (.there .here) (by rw [db_];omega))) ?_
  rintro v' L' ⟨rfl,rfl⟩
  refine bz_ ?_
  refine fk_ (arr xb 0 (inC ⟨8,on,a,b,c,d,n⟩)::arr tb 0 (bh_ cv (Mach.own t ⟨8,on,a,b,c,d,n⟩) av)::F) (fd_ (by rw [show Value.int .u64 (((((t.r b+t.r c)%18446744073709551616)+n)%18446744073709551616:Nat):Int)=num ((t.r b+t.r c+n)%18446744073709551616) by unfold num;congr 1;omega,da_ ha];rfl)) ?_
  skip
  (first | refine or0 Try.func102 Try.results102 hQ ?_ | refine on0 Try.func102 Try.results102 hQ ?_)
  exact ⟨_,rfl,rfl,rfl⟩
 ·refine bd_ Try.func102 rfl Try.ntmps102 (by simp) fun um Q _ hQ=>?_
  simp only [argE,Nat.zero_add,Nat.reduceAdd]
  repeat (first | (apply wo_mo;apply ct_;exact rfl;exact trivial) | refine bb_ ?_ | (refine wR ?_;try simp only [oS]))
  rintro v' L' ⟨xb,rfl,rfl⟩
  repeat (first | refine wS ?_ | refine weqlT ?_ | refine weqlF ?_ | refine bb_ ?_ | (refine wR ?_;try simp only [oS]) | refine ba_ ?_ | refine wM ?_ | refine wA ?_ | refine wN ?_ | refine wD ?_ | refine wL ?_ | refine wadd ?_ | refine wT ?_ | refine wF ?_ | refine bf_ ?_)
  refine dy_ (arr xb 0 (inC ⟨9,on,a,b,c,d,n⟩)::arr tb 0 (bh_ cv { t with pc:=t.pc+1 } av)::F) .refl ?_
  refine br_ (List.range' 0 19) (by kernel_rfl) ?_
  have hreg:=@hregs (arr xb 0 (inC ⟨9,on,a,b,c,d,n⟩))
  repeat (first | (apply be_;exact rfl;exact rfl;exact trivial;intro L;apply bt_;exact rfl;exact rfl;omega) | (apply bj_;exact rfl;exact rfl;exact trivial;apply bc_;exact rfl;exact hreg _ hb) | (apply bj_;exact rfl;exact rfl;exact trivial;apply bc_;exact rfl;exact hreg _ hc) | (apply be_;exact rfl;exact rfl;exact trivial;intro L;apply bu_;exact rfl;exact rfl;apply bff;exact cgk vc) | refine aM ?_ | refine aN ?_ | refine aD ?_ | refine aL ?_)
  refine cg_ rfl rfl rfl rfl rfl trivial (cq_ rfl rfl rfl (Wt.row0 (k:=3+a) (vs:=bh_ cv { t with pc:=t.pc+1 } av) (.there .here) (by rw [db_];omega))) ?_
  rintro v' L' ⟨rfl,rfl⟩
  refine bz_ ?_
  refine fk_ (arr xb 0 (inC ⟨9,on,a,b,c,d,n⟩)::arr tb 0 (bh_ cv (Mach.own t ⟨9,on,a,b,c,d,n⟩) av)::F) (fd_ (by rw [show Value.int .u64 (((t.r b+18446744073709551616-t.r c)%18446744073709551616:Nat):Int)=num ((t.r b+18446744073709551616-t.r c)%18446744073709551616) from rfl,da_ ha];rfl)) ?_
  skip
  (first | refine or0 Try.func102 Try.results102 hQ ?_ | refine on0 Try.func102 Try.results102 hQ ?_)
  exact ⟨_,rfl,rfl,rfl⟩
 ·refine bd_ Try.func102 rfl Try.ntmps102 (by simp) fun um Q _ hQ=>?_
  simp only [argE,Nat.zero_add,Nat.reduceAdd]
  repeat (first | (apply wo_mo;apply ct_;exact rfl;exact trivial) | refine bb_ ?_ | (refine wR ?_;try simp only [oS]))
  rintro v' L' ⟨xb,rfl,rfl⟩
  repeat (first | refine wS ?_ | refine weqlT ?_ | refine weqlF ?_ | refine bb_ ?_ | (refine wR ?_;try simp only [oS]) | refine ba_ ?_ | refine wM ?_ | refine wA ?_ | refine wN ?_ | refine wD ?_ | refine wL ?_ | refine wadd ?_ | refine wT ?_ | refine wF ?_ | refine bf_ ?_)
  refine dy_ (arr xb 0 (inC ⟨10,on,a,b,c,d,n⟩)::arr tb 0 (bh_ cv { t with pc:=t.pc+1 } av)::F) .refl ?_
  refine br_ (List.range' 0 19) (by kernel_rfl) ?_
  have hreg:=@hregs (arr xb 0 (inC ⟨10,on,a,b,c,d,n⟩))
  repeat (first | (apply be_;exact rfl;exact rfl;exact trivial;intro L;apply bt_;exact rfl;exact rfl;omega) | (apply bj_;exact rfl;exact rfl;exact trivial;apply bc_;exact rfl;exact hreg _ hb) | (apply bj_;exact rfl;exact rfl;exact trivial;apply bc_;exact rfl;exact hreg _ hc) | (apply be_;exact rfl;exact rfl;exact trivial;intro L;apply bu_;exact rfl;exact rfl;apply cjz;exact cgn) | refine aM ?_ | refine aN ?_ | refine aD ?_ | refine aL ?_)
  refine cg_ rfl rfl rfl rfl rfl trivial (cq_ rfl rfl rfl (Wt.row0 (k:=3+a) (vs:=bh_ cv { t with pc:=t.pc+1 } av) (.there .here) (by rw [db_];omega))) ?_
  rintro v' L' ⟨rfl,rfl⟩
  refine bz_ ?_
  refine fk_ (arr xb 0 (inC ⟨10,on,a,b,c,d,n⟩)::arr tb 0 (bh_ cv (Mach.own t ⟨10,on,a,b,c,d,n⟩) av)::F) (fd_ (by rw [show Value.int .u64 (((t.r b*t.r c)%18446744073709551616:Nat):Int)=num ((t.r b*t.r c)%18446744073709551616) from rfl,da_ ha];rfl)) ?_
  skip
  (first | refine or0 Try.func102 Try.results102 hQ ?_ | refine on0 Try.func102 Try.results102 hQ ?_)
  exact ⟨_,rfl,rfl,rfl⟩
 ·by_cases h0:t.r c=0
  ·have hc1:(t.r c:Int)=0:=by omega
   refine bd_ Try.func102 rfl Try.ntmps102 (by simp) fun um Q _ hQ=>?_
   simp only [argE,Nat.zero_add,Nat.reduceAdd]
   repeat (first | (apply wo_mo;apply ct_;exact rfl;exact trivial) | refine bb_ ?_ | (refine wR ?_;try simp only [oS]))
   rintro v' L' ⟨xb,rfl,rfl⟩
   repeat (first | refine wS ?_ | refine weqlT ?_ | refine weqlF ?_ | refine bb_ ?_ | (refine wR ?_;try simp only [oS]) | refine ba_ ?_ | refine wM ?_ | refine wA ?_ | refine wN ?_ | refine wD ?_ | refine wL ?_ | refine wadd ?_ | refine wT ?_ | refine wF ?_ | refine bf_ ?_)
   refine dy_ (arr xb 0 (inC ⟨11,on,a,b,c,d,n⟩)::arr tb 0 (bh_ cv { t with pc:=t.pc+1 } av)::F) .refl ?_
   refine br_ (List.range' 0 7) (by kernel_rfl) ?_
   have hreg:=@hregs (arr xb 0 (inC ⟨11,on,a,b,c,d,n⟩))
   repeat (first | (apply be_;exact rfl;exact rfl;exact trivial;intro L;apply bt_;exact rfl;exact rfl;omega) | (apply bj_;exact rfl;exact rfl;exact trivial;apply bc_;exact rfl;exact hreg _ hc) | (apply be_;exact rfl;exact rfl;exact trivial;intro L;apply bu_;exact rfl;exact rfl;apply kj_;exact hc1) | refine aM ?_ | refine aN ?_ | refine aD ?_ | refine aL ?_ | refine bz_ ?_)
   repeat (first | refine wT ?_)
   refine br_ (List.range' 0 6) (by kernel_rfl) ?_
   have hreg:=@hregs (arr xb 0 (inC ⟨11,on,a,b,c,d,n⟩))
   repeat (first | (apply be_;exact rfl;exact rfl;exact trivial;intro L;apply bt_;exact rfl;exact rfl;omega) | refine aM ?_ | refine aN ?_ | refine aD ?_ | refine aL ?_)
   refine cg_ rfl rfl rfl rfl rfl trivial (cq_ rfl rfl rfl (Wt.row0 (k:=3+a) (vs:=bh_ cv { t with pc:=t.pc+1 } av) (.there .here) (by rw [db_];omega))) ?_
   rintro v' L' ⟨rfl,rfl⟩
   refine bz_ ?_
   refine fk_ (arr xb 0 (inC ⟨11,on,a,b,c,d,n⟩)::arr tb 0 (bh_ cv (Mach.own t ⟨11,on,a,b,c,d,n⟩) av)::F) (fd_ (by rw [show Value.int .u64 0=num ((if t.r c=0 then 0 else t.r b/t.r c)%18446744073709551616) by rw [if_pos h0];rfl,da_ ha];rfl)) ?_
   skip
   (first | refine or0 Try.func102 Try.results102 hQ ?_ | refine on0 Try.func102 Try.results102 hQ ?_)
   exact ⟨_,rfl,rfl,rfl⟩
  ·have hc0:(t.r c:Int)≠0:=by omega
   refine bd_ Try.func102 rfl Try.ntmps102 (by simp) fun um Q _ hQ=>?_
   simp only [argE,Nat.zero_add,Nat.reduceAdd]
   repeat (first | (apply wo_mo;apply ct_;exact rfl;exact trivial) | refine bb_ ?_ | (refine wR ?_;try simp only [oS]))
   rintro v' L' ⟨xb,rfl,rfl⟩
   repeat (first | refine wS ?_ | refine weqlT ?_ | refine weqlF ?_ | refine bb_ ?_ | (refine wR ?_;try simp only [oS]) | refine ba_ ?_ | refine wM ?_ | refine wA ?_ | refine wN ?_ | refine wD ?_ | refine wL ?_ | refine wadd ?_ | refine wT ?_ | refine wF ?_ | refine bf_ ?_)
   refine dy_ (arr xb 0 (inC ⟨11,on,a,b,c,d,n⟩)::arr tb 0 (bh_ cv { t with pc:=t.pc+1 } av)::F) .refl ?_
   refine br_ (List.range' 0 7) (by kernel_rfl) ?_
   have hreg:=@hregs (arr xb 0 (inC ⟨11,on,a,b,c,d,n⟩))
   repeat (first | (apply be_;exact rfl;exact rfl;exact trivial;intro L;apply bt_;exact rfl;exact rfl;omega) | (apply bj_;exact rfl;exact rfl;exact trivial;apply bc_;exact rfl;exact hreg _ hc) | (apply be_;exact rfl;exact rfl;exact trivial;intro L;apply bu_;exact rfl;exact rfl;apply kk_;exact hc0) | refine aM ?_ | refine aN ?_ | refine aD ?_ | refine aL ?_ | refine bz_ ?_)
   repeat (first | refine wF ?_)
   refine br_ (List.range' 0 19) (by kernel_rfl) ?_
   have hreg:=@hregs (arr xb 0 (inC ⟨11,on,a,b,c,d,n⟩))
   repeat (first | (apply be_;exact rfl;exact rfl;exact trivial;intro L;apply bt_;exact rfl;exact rfl;omega) | (apply bj_;exact rfl;exact rfl;exact trivial;apply bc_;exact rfl;exact hreg _ hb) | (apply bj_;exact rfl;exact rfl;exact trivial;apply bc_;exact rfl;exact hreg _ hc) | (apply be_;exact rfl;exact rfl;exact trivial;intro L;apply bu_;exact rfl;exact rfl;apply cjx;exact hc0;exact cgm) | refine aM ?_ | refine aN ?_ | refine aD ?_ | refine aL ?_)
   refine cg_ rfl rfl rfl rfl rfl trivial (cq_ rfl rfl rfl (Wt.row0 (k:=3+a) (vs:=bh_ cv { t with pc:=t.pc+1 } av) (.there .here) (by rw [db_];omega))) ?_
   rintro v' L' ⟨rfl,rfl⟩
   refine bz_ ?_
   refine fk_ (arr xb 0 (inC ⟨11,on,a,b,c,d,n⟩)::arr tb 0 (bh_ cv (Mach.own t ⟨11,on,a,b,c,d,n⟩) av)::F) (fd_ (by rw [show Value.int .u64 (((t.r b/t.r c)%18446744073709551616:Nat):Int)=num ((if t.r c=0 then 0 else t.r b/t.r c)%18446744073709551616) by rw [if_neg h0];rfl,da_ ha];rfl)) ?_
   skip
   (first | refine or0 Try.func102 Try.results102 hQ ?_ | refine on0 Try.func102 Try.results102 hQ ?_)
   exact ⟨_,rfl,rfl,rfl⟩
 ·refine bd_ Try.func102 rfl Try.ntmps102 (by simp) fun um Q _ hQ=>?_
  simp only [argE,Nat.zero_add,Nat.reduceAdd]
  repeat (first | (apply wo_mo;apply ct_;exact rfl;exact trivial) | refine bb_ ?_ | (refine wR ?_;try simp only [oS]))
  rintro v' L' ⟨xb,rfl,rfl⟩
  repeat (first | refine wS ?_ | refine weqlT ?_ | refine weqlF ?_ | refine bb_ ?_ | (refine wR ?_;try simp only [oS]) | refine ba_ ?_ | refine wM ?_ | refine wA ?_ | refine wN ?_ | refine wD ?_ | refine wL ?_ | refine wadd ?_ | refine wT ?_ | refine wF ?_ | refine bf_ ?_)
  refine dy_ (arr xb 0 (inC ⟨12,on,a,b,c,d,n⟩)::arr tb 0 (bh_ cv { t with pc:=t.pc+1 } av)::F) .refl ?_
  refine br_ (List.range' 0 19) (by kernel_rfl) ?_
  have hreg:=@hregs (arr xb 0 (inC ⟨12,on,a,b,c,d,n⟩))
  repeat (first | (apply be_;exact rfl;exact rfl;exact trivial;intro L;apply bt_;exact rfl;exact rfl;omega) | (apply bj_;exact rfl;exact rfl;exact trivial;apply bc_;exact rfl;exact hreg _ hb) | (apply bj_;exact rfl;exact rfl;exact trivial;apply bc_;exact rfl;exact hreg _ hc) | (apply be_;exact rfl;exact rfl;exact trivial;intro L;apply bu_;exact rfl;exact rfl;apply mt_;exact zb_ vb vc) | refine aM ?_ | refine aN ?_ | refine aD ?_ | refine aL ?_)
  refine cg_ rfl rfl rfl rfl rfl trivial (cq_ rfl rfl rfl (Wt.row0 (k:=3+a) (vs:=bh_ cv { t with pc:=t.pc+1 } av) (.there .here) (by rw [db_];omega))) ?_
  rintro v' L' ⟨rfl,rfl⟩
  refine bz_ ?_
  refine fk_ (arr xb 0 (inC ⟨12,on,a,b,c,d,n⟩)::arr tb 0 (bh_ cv (Mach.own t ⟨12,on,a,b,c,d,n⟩) av)::F) (fd_ (by rw [show Value.int .u64 (((t.r b &&& t.r c)%18446744073709551616:Nat):Int)=num ((t.r b &&& t.r c)%18446744073709551616) from rfl,da_ ha];rfl)) ?_
  skip
  (first | refine or0 Try.func102 Try.results102 hQ ?_ | refine on0 Try.func102 Try.results102 hQ ?_)
  exact ⟨_,rfl,rfl,rfl⟩
 ·refine bd_ Try.func102 rfl Try.ntmps102 (by simp) fun um Q _ hQ=>?_
  simp only [argE,Nat.zero_add,Nat.reduceAdd]
  repeat (first | (apply wo_mo;apply ct_;exact rfl;exact trivial) | refine bb_ ?_ | (refine wR ?_;try simp only [oS]))
  rintro v' L' ⟨xb,rfl,rfl⟩
  repeat (first | refine wS ?_ | refine weqlT ?_ | refine weqlF ?_ | refine bb_ ?_ | (refine wR ?_;try simp only [oS]) | refine ba_ ?_ | refine wM ?_ | refine wA ?_ | refine wN ?_ | refine wD ?_ | refine wL ?_ | refine wadd ?_ | refine wT ?_ | refine wF ?_ | refine bf_ ?_)
  refine dy_ (arr xb 0 (inC ⟨13,on,a,b,c,d,n⟩)::arr tb 0 (bh_ cv { t with pc:=t.pc+1 } av)::F) .refl ?_
  refine br_ (List.range' 0 19) (by kernel_rfl) ?_
  have hreg:=@hregs (arr xb 0 (inC ⟨13,on,a,b,c,d,n⟩))
  repeat (first | (apply be_;exact rfl;exact rfl;exact trivial;intro L;apply bt_;exact rfl;exact rfl;omega) | (apply bj_;exact rfl;exact rfl;exact trivial;apply bc_;exact rfl;exact hreg _ hb) | (apply bj_;exact rfl;exact rfl;exact trivial;apply bc_;exact rfl;exact hreg _ hc) | (apply be_;exact rfl;exact rfl;exact trivial;intro L;apply bu_;exact rfl;exact rfl;apply cdn;exact bnf vb vc) | refine aM ?_ | refine aN ?_ | refine aD ?_ | refine aL ?_)
  refine cg_ rfl rfl rfl rfl rfl trivial (cq_ rfl rfl rfl (Wt.row0 (k:=3+a) (vs:=bh_ cv { t with pc:=t.pc+1 } av) (.there .here) (by rw [db_];omega))) ?_
  rintro v' L' ⟨rfl,rfl⟩
  refine bz_ ?_
  refine fk_ (arr xb 0 (inC ⟨13,on,a,b,c,d,n⟩)::arr tb 0 (bh_ cv (Mach.own t ⟨13,on,a,b,c,d,n⟩) av)::F) (fd_ (by rw [show Value.int .u64 (((t.r b ||| t.r c)%18446744073709551616:Nat):Int)=num ((t.r b ||| t.r c)%18446744073709551616) from rfl,da_ ha];rfl)) ?_
  skip
  (first | refine or0 Try.func102 Try.results102 hQ ?_ | refine on0 Try.func102 Try.results102 hQ ?_)
  exact ⟨_,rfl,rfl,rfl⟩
 ·have hs:n<64:=hsh.resolve_left (by simp)
  refine bd_ Try.func102 rfl Try.ntmps102 (by simp) fun um Q _ hQ=>?_
  simp only [argE,Nat.zero_add,Nat.reduceAdd]
  repeat (first | (apply wo_mo;apply ct_;exact rfl;exact trivial) | refine bb_ ?_ | (refine wR ?_;try simp only [oS]))
  rintro v' L' ⟨xb,rfl,rfl⟩
  repeat (first | refine wS ?_ | refine weqlT ?_ | refine weqlF ?_ | refine bb_ ?_ | (refine wR ?_;try simp only [oS]) | refine ba_ ?_ | refine wM ?_ | refine wA ?_ | refine wN ?_ | refine wD ?_ | refine wL ?_ | refine wadd ?_ | refine wT ?_ | refine wF ?_ | refine bf_ ?_)
  refine dy_ (arr xb 0 (inC ⟨14,on,a,b,c,d,n⟩)::arr tb 0 (bh_ cv { t with pc:=t.pc+1 } av)::F) .refl ?_
  refine br_ (List.range' 0 15) (by kernel_rfl) ?_
  have hreg:=@hregs (arr xb 0 (inC ⟨14,on,a,b,c,d,n⟩))
  repeat (first | (apply be_;exact rfl;exact rfl;exact trivial;intro L;apply bt_;exact rfl;exact rfl;omega) | (apply bj_;exact rfl;exact rfl;exact trivial;apply bc_;exact rfl;exact hreg _ hb) | (apply be_;exact rfl;exact rfl;exact trivial;intro L;apply bu_;exact rfl;exact rfl;apply bfg;omega;exact bcq hs) | refine aM ?_ | refine aN ?_ | refine aD ?_ | refine aL ?_)
  refine cg_ rfl rfl rfl rfl rfl trivial (cq_ rfl rfl rfl (Wt.row0 (k:=3+a) (vs:=bh_ cv { t with pc:=t.pc+1 } av) (.there .here) (by rw [db_];omega))) ?_
  rintro v' L' ⟨rfl,rfl⟩
  refine bz_ ?_
  refine fk_ (arr xb 0 (inC ⟨14,on,a,b,c,d,n⟩)::arr tb 0 (bh_ cv (Mach.own t ⟨14,on,a,b,c,d,n⟩) av)::F) (fd_ (by rw [show Value.int .u64 (((t.r b*2^n)%18446744073709551616:Nat):Int)=num ((t.r b*2^n)%18446744073709551616) from rfl,da_ ha];rfl)) ?_
  skip
  (first | refine or0 Try.func102 Try.results102 hQ ?_ | refine on0 Try.func102 Try.results102 hQ ?_)
  exact ⟨_,rfl,rfl,rfl⟩
 ·have hs:n<64:=hsh.resolve_left (by simp)
  refine bd_ Try.func102 rfl Try.ntmps102 (by simp) fun um Q _ hQ=>?_
  simp only [argE,Nat.zero_add,Nat.reduceAdd]
  repeat (first | (apply wo_mo;apply ct_;exact rfl;exact trivial) | refine bb_ ?_ | (refine wR ?_;try simp only [oS]))
  rintro v' L' ⟨xb,rfl,rfl⟩
  repeat (first | refine wS ?_ | refine weqlT ?_ | refine weqlF ?_ | refine bb_ ?_ | (refine wR ?_;try simp only [oS]) | refine ba_ ?_ | refine wM ?_ | refine wA ?_ | refine wN ?_ | refine wD ?_ | refine wL ?_ | refine wadd ?_ | refine wT ?_ | refine wF ?_ | refine bf_ ?_)
  refine dy_ (arr xb 0 (inC ⟨15,on,a,b,c,d,n⟩)::arr tb 0 (bh_ cv { t with pc:=t.pc+1 } av)::F) .refl ?_
  refine br_ (List.range' 0 15) (by kernel_rfl) ?_
  have hreg:=@hregs (arr xb 0 (inC ⟨15,on,a,b,c,d,n⟩))
  repeat (first | (apply be_;exact rfl;exact rfl;exact trivial;intro L;apply bt_;exact rfl;exact rfl;omega) | (apply bj_;exact rfl;exact rfl;exact trivial;apply bc_;exact rfl;exact hreg _ hb) | (apply be_;exact rfl;exact rfl;exact trivial;intro L;apply bu_;exact rfl;exact rfl;apply ms_;omega;exact wk_ hs vb) | refine aM ?_ | refine aN ?_ | refine aD ?_ | refine aL ?_)
  refine cg_ rfl rfl rfl rfl rfl trivial (cq_ rfl rfl rfl (Wt.row0 (k:=3+a) (vs:=bh_ cv { t with pc:=t.pc+1 } av) (.there .here) (by rw [db_];omega))) ?_
  rintro v' L' ⟨rfl,rfl⟩
  refine bz_ ?_
  refine fk_ (arr xb 0 (inC ⟨15,on,a,b,c,d,n⟩)::arr tb 0 (bh_ cv (Mach.own t ⟨15,on,a,b,c,d,n⟩) av)::F) (fd_ (by rw [show Value.int .u64 (((t.r b/2^n)%18446744073709551616:Nat):Int)=num ((t.r b/2^n)%18446744073709551616) from rfl,da_ ha];rfl)) ?_
  skip
  (first | refine or0 Try.func102 Try.results102 hQ ?_ | refine on0 Try.func102 Try.results102 hQ ?_)
  exact ⟨_,rfl,rfl,rfl⟩
 ·refine bd_ Try.func102 rfl Try.ntmps102 (by simp) fun um Q _ hQ=>?_
  simp only [argE,Nat.zero_add,Nat.reduceAdd]
  repeat (first | (apply wo_mo;apply ct_;exact rfl;exact trivial) | refine bb_ ?_ | (refine wR ?_;try simp only [oS]))
  rintro v' L' ⟨xb,rfl,rfl⟩
  repeat (first | refine wS ?_ | refine weqlT ?_ | refine weqlF ?_ | refine bb_ ?_ | (refine wR ?_;try simp only [oS]) | refine ba_ ?_ | refine wM ?_ | refine wA ?_ | refine wN ?_ | refine wD ?_ | refine wL ?_ | refine wadd ?_ | refine wT ?_ | refine wF ?_ | refine bf_ ?_)
  refine dy_ (arr xb 0 (inC ⟨16,on,a,b,c,d,n⟩)::arr tb 0 (bh_ cv { t with pc:=t.pc+1 } av)::F) .refl ?_
  refine br_ (List.range' 0 19) (by kernel_rfl) ?_
  have hreg:=@hregs (arr xb 0 (inC ⟨16,on,a,b,c,d,n⟩))
  repeat (first | (apply be_;exact rfl;exact rfl;exact trivial;intro L;apply bt_;exact rfl;exact rfl;omega) | (apply bj_;exact rfl;exact rfl;exact trivial;apply bc_;exact rfl;exact hreg _ hb) | (apply bj_;exact rfl;exact rfl;exact trivial;apply bc_;exact rfl;exact hreg _ hc) | (apply be_;exact rfl;exact rfl;exact trivial;intro L;apply cms;exact rfl;exact rfl) | refine aM ?_ | refine aN ?_ | refine aD ?_ | refine aL ?_)
  refine cg_ rfl rfl rfl rfl rfl trivial (cq_ rfl rfl rfl (Wt.row0 (k:=3+a) (vs:=bh_ cv { t with pc:=t.pc+1 } av) (.there .here) (by rw [db_];omega))) ?_
  rintro v' L' ⟨rfl,rfl⟩
  refine bz_ ?_
  refine fk_ (arr xb 0 (inC ⟨16,on,a,b,c,d,n⟩)::arr tb 0 (bh_ cv (Mach.own t ⟨16,on,a,b,c,d,n⟩) av)::F) (fd_ (by rw [show Value.int .u64 (max (t.r b:Int) (t.r c:Int))=num (max (t.r b) (t.r c)%18446744073709551616) by show Value.int .u64 _=Value.int .u64 _;rw [show max (t.r b:Int) (t.r c:Int)=((max (t.r b) (t.r c)%18446744073709551616:Nat):Int) by omega],da_ ha];rfl)) ?_
  skip
  (first | refine or0 Try.func102 Try.results102 hQ ?_ | refine on0 Try.func102 Try.results102 hQ ?_)
  exact ⟨_,rfl,rfl,rfl⟩
end Go.Proofs.Ytnnpdmhmpgmpnaa
namespace Go.Proofs.Ytnnpdmhmpgmpnaa
open Go Go.PB
attribute [local irreducible] Mo Bin Eql Tr Wo Ap
section
variable {B:Hand} [Lets B] {L F:List HProp} {x:B.X}
set_option maxHeartbeats 4000000 in
theorem zi_ {tb ab ao an ac:Nat} {w cv:Value} {t:Mach.Th} {i:Mach.In} (hop:18≤i.op∧i.op≤21) (hi:i.ok=true) (hr:∀ j,t.r j<18446744073709551616) (hcall:t.call<an)
  (hh:Has L (arr tb 0 (bh_ cv { t with pc:=t.pc+1 } (.slice (some ⟨ab,ao,none⟩) an ac))) F) :
  Tr Try.prog B 109 [.pointer (some ⟨tb,0,none⟩),w,.agg (inC i).toArray] L x fun v L' x'=>v=.tuple #[]∧L'=arr tb 0 (bh_ cv (Mach.own t i) (.slice (some ⟨ab,ao,none⟩) an ac))::F∧x'=x:=by
 refine dw_ _ (fun h s=>hh.star s) ?_
 clear hh
 refine Tr.post (R:=fun v L' x'=>∃ c,v=.tuple #[]∧L'=c::arr tb 0 (bh_ cv (Mach.own t i) (.slice (some ⟨ab,ao,none⟩) an ac))::F∧x'=x) ?_ (by rintro v L' x' ⟨c,rfl,rfl,rfl⟩;exact ⟨_,⟨rfl,rfl,rfl⟩,fun h s=>bs_ s⟩)
 obtain ⟨op,on,a,b,c,d,n⟩:=i
 simp only [Mach.In.ok,Bool.and_eq_true,decide_eq_true_eq,Bool.or_eq_true,Bool.not_eq_true',decide_eq_false_iff_not] at hi hop
 obtain ⟨⟨⟨⟨⟨⟨⟨⟨⟨⟨_,_⟩,ha⟩,hb⟩,hc⟩,hd⟩,hon⟩,hn⟩,hj⟩,_⟩,_⟩:=hi
 have hnj:n<1000000:=by
  rcases hj with hj | hj
  ·simp at hj;omega
  ·exact hj
 have hcv:IntKind.i64.wrap (n:Int)=(n:Int):=hg_ (by omega) (by omega)
 have hops:op=18∨op=19∨op=20∨op=21:=by omega
 have hregs:∀ {e:HProp},∀ j,j<24→Rd (e::arr tb 0 (bh_ cv { t with pc:=t.pc+1 } (.slice (some ⟨ab,ao,none⟩) an ac))::F) tb (3+j) (num (t.r j)):=fun {e} j h=>xu_ (t:={ t with pc:=t.pc+1 }) (.there .here) h
 have va:=hr a
 have vb:=hr b
 rcases hops with rfl | rfl | rfl | rfl
 ·refine bd_ Try.func109 rfl Try.ntmps109 (by simp) fun um Q _ hQ=>?_
  simp only [argE,Nat.zero_add,Nat.reduceAdd]
  repeat (first | (apply wo_mo;apply ct_;exact rfl;exact trivial) | refine bb_ ?_ | (refine wR ?_;try simp only [oS]))
  rintro v' L' ⟨xb,rfl,rfl⟩
  repeat (first | refine bb_ ?_ | (refine wR ?_;try simp only [oS]) | refine ba_ ?_ | refine wM ?_ | refine wA ?_ | refine wN ?_ | refine wD ?_)
  refine dy_ (arr xb 0 (inC ⟨18,on,a,b,c,d,n⟩)::arr tb 0 (bh_ cv { t with pc:=t.pc+1 } (.slice (some ⟨ab,ao,none⟩) an ac))::F) .refl ?_
  refine br_ (List.range' 0 11) (by kernel_rfl) ?_
  have hreg:=@hregs (arr xb 0 (inC ⟨18,on,a,b,c,d,n⟩))
  have hav:Rd (arr xb 0 (inC ⟨18,on,a,b,c,d,n⟩)::arr tb 0 (bh_ cv { t with pc:=t.pc+1 } (.slice (some ⟨ab,ao,none⟩) an ac))::F) tb 27 (.slice (some ⟨ab,ao,none⟩) an ac):=.there (.row0 rfl)
  repeat (first | (apply bj_;exact rfl;exact rfl;exact trivial;apply bc_;exact rfl;exact hav) | (apply be_;exact rfl;exact rfl;exact trivial;intro L;apply fs_;exact rfl;exact rfl;omega) | refine aM ?_ | refine aA ?_ | refine aN ?_ | refine aD ?_ | refine aL ?_ | refine bz_ ?_)
  repeat (first | refine weqlT ?_ | refine bb_ ?_ | (refine wR ?_;try simp only [oS]) | refine ba_ ?_ | refine wM ?_ | refine wA ?_ | refine wD ?_ | refine wL ?_ | refine wT ?_ | refine bf_ ?_)
  repeat (first | (apply wo_po;apply fe_;exact rfl;exact hcv;exact trivial) | refine wS ?_ | refine ba_ ?_ | refine wN ?_ | refine wD ?_)
  refine fk_ (arr xb 0 (inC ⟨18,on,a,b,c,d,n⟩)::arr tb 0 (bh_ cv (Mach.own t ⟨18,on,a,b,c,d,n⟩) (.slice (some ⟨ab,ao,none⟩) an ac))::F) (fd_ (by rfl)) ?_
  (first | refine or0 Try.func109 Try.results109 hQ ?_ | refine on0 Try.func109 Try.results109 hQ ?_)
  exact ⟨_,rfl,rfl,rfl⟩
 ·by_cases h0:t.r a=t.r b
  ·have hc1:(t.r a:Int)=(t.r b:Int):=by omega
   refine bd_ Try.func109 rfl Try.ntmps109 (by simp) fun um Q _ hQ=>?_
   simp only [argE,Nat.zero_add,Nat.reduceAdd]
   repeat (first | (apply wo_mo;apply ct_;exact rfl;exact trivial) | refine bb_ ?_ | (refine wR ?_;try simp only [oS]))
   rintro v' L' ⟨xb,rfl,rfl⟩
   repeat (first | refine bb_ ?_ | (refine wR ?_;try simp only [oS]) | refine ba_ ?_ | refine wM ?_ | refine wA ?_ | refine wN ?_ | refine wD ?_)
   refine dy_ (arr xb 0 (inC ⟨19,on,a,b,c,d,n⟩)::arr tb 0 (bh_ cv { t with pc:=t.pc+1 } (.slice (some ⟨ab,ao,none⟩) an ac))::F) .refl ?_
   refine br_ (List.range' 0 11) (by kernel_rfl) ?_
   have hreg:=@hregs (arr xb 0 (inC ⟨19,on,a,b,c,d,n⟩))
   have hav:Rd (arr xb 0 (inC ⟨19,on,a,b,c,d,n⟩)::arr tb 0 (bh_ cv { t with pc:=t.pc+1 } (.slice (some ⟨ab,ao,none⟩) an ac))::F) tb 27 (.slice (some ⟨ab,ao,none⟩) an ac):=.there (.row0 rfl)
   repeat (first | (apply bj_;exact rfl;exact rfl;exact trivial;apply bc_;exact rfl;exact hav) | (apply be_;exact rfl;exact rfl;exact trivial;intro L;apply fs_;exact rfl;exact rfl;omega) | refine aM ?_ | refine aA ?_ | refine aN ?_ | refine aD ?_ | refine aL ?_ | refine bz_ ?_)
   repeat (first | refine weqlT ?_ | refine weqlF ?_ | refine bb_ ?_ | (refine wR ?_;try simp only [oS]) | refine ba_ ?_ | refine wA ?_ | refine wD ?_ | refine wL ?_ | refine wT ?_ | refine wF ?_ | refine bf_ ?_)
   refine br_ (List.range' 0 13) (by kernel_rfl) ?_
   repeat (first | (apply be_;exact rfl;exact rfl;exact trivial;intro L;apply bt_;exact rfl;exact rfl;omega) | (apply bj_;exact rfl;exact rfl;exact trivial;apply bc_;exact rfl;exact hreg _ ha) | (apply bj_;exact rfl;exact rfl;exact trivial;apply bc_;exact rfl;exact hreg _ hb) | (apply be_;exact rfl;exact rfl;exact trivial;intro L;apply bu_;exact rfl;exact rfl;apply kj_;exact hc1) | refine aM ?_ | refine aN ?_ | refine aD ?_ | refine aL ?_ | refine bz_ ?_)
   repeat (first | (apply wo_po;apply fe_;exact rfl;exact hcv;exact trivial) | refine wS ?_ | (refine wR ?_;try simp only [oS]) | refine ba_ ?_ | refine wM ?_ | refine wN ?_ | refine wD ?_ | refine wL ?_ | refine wT ?_)
   refine fk_ (arr xb 0 (inC ⟨19,on,a,b,c,d,n⟩)::arr tb 0 (bh_ cv (Mach.own t ⟨19,on,a,b,c,d,n⟩) (.slice (some ⟨ab,ao,none⟩) an ac))::F) (fd_ (by rw [show Mach.own t ⟨19,on,a,b,c,d,n⟩={ t with pc:=n } from if_pos h0];rfl)) ?_
   (first | refine or0 Try.func109 Try.results109 hQ ?_ | refine on0 Try.func109 Try.results109 hQ ?_)
   exact ⟨_,rfl,rfl,rfl⟩
  ·have hc1:¬ (t.r a:Int)=(t.r b:Int):=by omega
   refine bd_ Try.func109 rfl Try.ntmps109 (by simp) fun um Q _ hQ=>?_
   simp only [argE,Nat.zero_add,Nat.reduceAdd]
   repeat (first | (apply wo_mo;apply ct_;exact rfl;exact trivial) | refine bb_ ?_ | (refine wR ?_;try simp only [oS]))
   rintro v' L' ⟨xb,rfl,rfl⟩
   repeat (first | refine bb_ ?_ | (refine wR ?_;try simp only [oS]) | refine ba_ ?_ | refine wM ?_ | refine wA ?_ | refine wN ?_ | refine wD ?_)
   refine dy_ (arr xb 0 (inC ⟨19,on,a,b,c,d,n⟩)::arr tb 0 (bh_ cv { t with pc:=t.pc+1 } (.slice (some ⟨ab,ao,none⟩) an ac))::F) .refl ?_
   refine br_ (List.range' 0 11) (by kernel_rfl) ?_
   have hreg:=@hregs (arr xb 0 (inC ⟨19,on,a,b,c,d,n⟩))
   have hav:Rd (arr xb 0 (inC ⟨19,on,a,b,c,d,n⟩)::arr tb 0 (bh_ cv { t with pc:=t.pc+1 } (.slice (some ⟨ab,ao,none⟩) an ac))::F) tb 27 (.slice (some ⟨ab,ao,none⟩) an ac):=.there (.row0 rfl)
   repeat (first | (apply bj_;exact rfl;exact rfl;exact trivial;apply bc_;exact rfl;exact hav) | (apply be_;exact rfl;exact rfl;exact trivial;intro L;apply fs_;exact rfl;exact rfl;omega) | refine aM ?_ | refine aA ?_ | refine aN ?_ | refine aD ?_ | refine aL ?_ | refine bz_ ?_)
   repeat (first | refine weqlT ?_ | refine weqlF ?_ | refine bb_ ?_ | (refine wR ?_;try simp only [oS]) | refine ba_ ?_ | refine wA ?_ | refine wD ?_ | refine wL ?_ | refine wT ?_ | refine wF ?_ | refine bf_ ?_)
   refine br_ (List.range' 0 13) (by kernel_rfl) ?_
   repeat (first | (apply be_;exact rfl;exact rfl;exact trivial;intro L;apply bt_;exact rfl;exact rfl;omega) | (apply bj_;exact rfl;exact rfl;exact trivial;apply bc_;exact rfl;exact hreg _ ha) | (apply bj_;exact rfl;exact rfl;exact trivial;apply bc_;exact rfl;exact hreg _ hb) | (apply be_;exact rfl;exact rfl;exact trivial;intro L;apply bu_;exact rfl;exact rfl;apply kk_;exact hc1) | refine aM ?_ | refine aN ?_ | refine aD ?_ | refine aL ?_ | refine bz_ ?_)
   repeat (first | refine wF ?_ | refine bk_ ?_)
   refine fk_ (arr xb 0 (inC ⟨19,on,a,b,c,d,n⟩)::arr tb 0 (bh_ cv (Mach.own t ⟨19,on,a,b,c,d,n⟩) (.slice (some ⟨ab,ao,none⟩) an ac))::F) (fd_ (by rw [show Mach.own t ⟨19,on,a,b,c,d,n⟩={ t with pc:=t.pc+1 } from if_neg h0])) ?_
   (first | refine or0 Try.func109 Try.results109 hQ ?_ | refine on0 Try.func109 Try.results109 hQ ?_)
   exact ⟨_,rfl,rfl,rfl⟩
 ·by_cases h0:t.r a<t.r b
  ·have hc1:(t.r a:Int)<(t.r b:Int):=by omega
   refine bd_ Try.func109 rfl Try.ntmps109 (by simp) fun um Q _ hQ=>?_
   simp only [argE,Nat.zero_add,Nat.reduceAdd]
   repeat (first | (apply wo_mo;apply ct_;exact rfl;exact trivial) | refine bb_ ?_ | (refine wR ?_;try simp only [oS]))
   rintro v' L' ⟨xb,rfl,rfl⟩
   repeat (first | refine bb_ ?_ | (refine wR ?_;try simp only [oS]) | refine ba_ ?_ | refine wM ?_ | refine wA ?_ | refine wN ?_ | refine wD ?_)
   refine dy_ (arr xb 0 (inC ⟨20,on,a,b,c,d,n⟩)::arr tb 0 (bh_ cv { t with pc:=t.pc+1 } (.slice (some ⟨ab,ao,none⟩) an ac))::F) .refl ?_
   refine br_ (List.range' 0 11) (by kernel_rfl) ?_
   have hreg:=@hregs (arr xb 0 (inC ⟨20,on,a,b,c,d,n⟩))
   have hav:Rd (arr xb 0 (inC ⟨20,on,a,b,c,d,n⟩)::arr tb 0 (bh_ cv { t with pc:=t.pc+1 } (.slice (some ⟨ab,ao,none⟩) an ac))::F) tb 27 (.slice (some ⟨ab,ao,none⟩) an ac):=.there (.row0 rfl)
   repeat (first | (apply bj_;exact rfl;exact rfl;exact trivial;apply bc_;exact rfl;exact hav) | (apply be_;exact rfl;exact rfl;exact trivial;intro L;apply fs_;exact rfl;exact rfl;omega) | refine aM ?_ | refine aA ?_ | refine aN ?_ | refine aD ?_ | refine aL ?_ | refine bz_ ?_)
   repeat (first | refine weqlT ?_ | refine weqlF ?_ | refine bb_ ?_ | (refine wR ?_;try simp only [oS]) | refine ba_ ?_ | refine wA ?_ | refine wD ?_ | refine wL ?_ | refine wT ?_ | refine wF ?_ | refine bf_ ?_)
   refine br_ (List.range' 0 13) (by kernel_rfl) ?_
   repeat (first | (apply be_;exact rfl;exact rfl;exact trivial;intro L;apply bt_;exact rfl;exact rfl;omega) | (apply bj_;exact rfl;exact rfl;exact trivial;apply bc_;exact rfl;exact hreg _ ha) | (apply bj_;exact rfl;exact rfl;exact trivial;apply bc_;exact rfl;exact hreg _ hb) | (apply be_;exact rfl;exact rfl;exact trivial;intro L;apply bu_;exact rfl;exact rfl;apply yv_;exact hc1) | refine aM ?_ | refine aN ?_ | refine aD ?_ | refine aL ?_ | refine bz_ ?_)
   repeat (first | (apply wo_po;apply fe_;exact rfl;exact hcv;exact trivial) | refine wS ?_ | (refine wR ?_;try simp only [oS]) | refine ba_ ?_ | refine wM ?_ | refine wN ?_ | refine wD ?_ | refine wL ?_ | refine wT ?_)
   refine fk_ (arr xb 0 (inC ⟨20,on,a,b,c,d,n⟩)::arr tb 0 (bh_ cv (Mach.own t ⟨20,on,a,b,c,d,n⟩) (.slice (some ⟨ab,ao,none⟩) an ac))::F) (fd_ (by rw [show Mach.own t ⟨20,on,a,b,c,d,n⟩={ t with pc:=n } from if_pos h0];rfl)) ?_
   (first | refine or0 Try.func109 Try.results109 hQ ?_ | refine on0 Try.func109 Try.results109 hQ ?_)
   exact ⟨_,rfl,rfl,rfl⟩
  ·have hc1:¬ (t.r a:Int)<(t.r b:Int):=by omega
   refine bd_ Try.func109 rfl Try.ntmps109 (by simp) fun um Q _ hQ=>?_
   simp only [argE,Nat.zero_add,Nat.reduceAdd]
   repeat (first | (apply wo_mo;apply ct_;exact rfl;exact trivial) | refine bb_ ?_ | (refine wR ?_;try simp only [oS]))
   rintro v' L' ⟨xb,rfl,rfl⟩
   repeat (first | refine bb_ ?_ | (refine wR ?_;try simp only [oS]) | refine ba_ ?_ | refine wM ?_ | refine wA ?_ | refine wN ?_ | refine wD ?_)
   refine dy_ (arr xb 0 (inC ⟨20,on,a,b,c,d,n⟩)::arr tb 0 (bh_ cv { t with pc:=t.pc+1 } (.slice (some ⟨ab,ao,none⟩) an ac))::F) .refl ?_
   refine br_ (List.range' 0 11) (by kernel_rfl) ?_
   have hreg:=@hregs (arr xb 0 (inC ⟨20,on,a,b,c,d,n⟩))
   have hav:Rd (arr xb 0 (inC ⟨20,on,a,b,c,d,n⟩)::arr tb 0 (bh_ cv { t with pc:=t.pc+1 } (.slice (some ⟨ab,ao,none⟩) an ac))::F) tb 27 (.slice (some ⟨ab,ao,none⟩) an ac):=.there (.row0 rfl)
   repeat (first | (apply bj_;exact rfl;exact rfl;exact trivial;apply bc_;exact rfl;exact hav) | (apply be_;exact rfl;exact rfl;exact trivial;intro L;apply fs_;exact rfl;exact rfl;omega) | refine aM ?_ | refine aA ?_ | refine aN ?_ | refine aD ?_ | refine aL ?_ | refine bz_ ?_)
   repeat (first | refine weqlT ?_ | refine weqlF ?_ | refine bb_ ?_ | (refine wR ?_;try simp only [oS]) | refine ba_ ?_ | refine wA ?_ | refine wD ?_ | refine wL ?_ | refine wT ?_ | refine wF ?_ | refine bf_ ?_)
   refine br_ (List.range' 0 13) (by kernel_rfl) ?_
   repeat (first | (apply be_;exact rfl;exact rfl;exact trivial;intro L;apply bt_;exact rfl;exact rfl;omega) | (apply bj_;exact rfl;exact rfl;exact trivial;apply bc_;exact rfl;exact hreg _ ha) | (apply bj_;exact rfl;exact rfl;exact trivial;apply bc_;exact rfl;exact hreg _ hb) | (apply be_;exact rfl;exact rfl;exact trivial;intro L;apply bu_;exact rfl;exact rfl;apply yw_;exact hc1) | refine aM ?_ | refine aN ?_ | refine aD ?_ | refine aL ?_ | refine bz_ ?_)
   repeat (first | refine wF ?_ | refine bk_ ?_)
   refine fk_ (arr xb 0 (inC ⟨20,on,a,b,c,d,n⟩)::arr tb 0 (bh_ cv (Mach.own t ⟨20,on,a,b,c,d,n⟩) (.slice (some ⟨ab,ao,none⟩) an ac))::F) (fd_ (by rw [show Mach.own t ⟨20,on,a,b,c,d,n⟩={ t with pc:=t.pc+1 } from if_neg h0])) ?_
   (first | refine or0 Try.func109 Try.results109 hQ ?_ | refine on0 Try.func109 Try.results109 hQ ?_)
   exact ⟨_,rfl,rfl,rfl⟩
 ·have hsh:(t.r a:Int).fdiv (2^(min (63:Int).toNat IntKind.u64.bits))=(((t.r a/2^63)%18446744073709551616:Nat):Int):=wk_ (n:=63) (by omega) va
  by_cases h0:9223372036854775808≤t.r a
  ·have hc1:(((t.r a/2^63)%18446744073709551616:Nat):Int)=1:=by omega
   refine bd_ Try.func109 rfl Try.ntmps109 (by simp) fun um Q _ hQ=>?_
   simp only [argE,Nat.zero_add,Nat.reduceAdd]
   repeat (first | (apply wo_mo;apply ct_;exact rfl;exact trivial) | refine bb_ ?_ | (refine wR ?_;try simp only [oS]))
   rintro v' L' ⟨xb,rfl,rfl⟩
   repeat (first | refine bb_ ?_ | (refine wR ?_;try simp only [oS]) | refine ba_ ?_ | refine wM ?_ | refine wA ?_ | refine wN ?_ | refine wD ?_)
   refine dy_ (arr xb 0 (inC ⟨21,on,a,b,c,d,n⟩)::arr tb 0 (bh_ cv { t with pc:=t.pc+1 } (.slice (some ⟨ab,ao,none⟩) an ac))::F) .refl ?_
   refine br_ (List.range' 0 11) (by kernel_rfl) ?_
   have hreg:=@hregs (arr xb 0 (inC ⟨21,on,a,b,c,d,n⟩))
   have hav:Rd (arr xb 0 (inC ⟨21,on,a,b,c,d,n⟩)::arr tb 0 (bh_ cv { t with pc:=t.pc+1 } (.slice (some ⟨ab,ao,none⟩) an ac))::F) tb 27 (.slice (some ⟨ab,ao,none⟩) an ac):=.there (.row0 rfl)
   repeat (first | (apply bj_;exact rfl;exact rfl;exact trivial;apply bc_;exact rfl;exact hav) | (apply be_;exact rfl;exact rfl;exact trivial;intro L;apply fs_;exact rfl;exact rfl;omega) | refine aM ?_ | refine aA ?_ | refine aN ?_ | refine aD ?_ | refine aL ?_ | refine bz_ ?_)
   repeat (first | refine weqlT ?_ | refine weqlF ?_ | refine bb_ ?_ | (refine wR ?_;try simp only [oS]) | refine ba_ ?_ | refine wA ?_ | refine wD ?_ | refine wL ?_ | refine wT ?_ | refine wF ?_ | refine bf_ ?_)
   refine br_ (List.range' 0 8) (by kernel_rfl) ?_
   repeat (first | (apply be_;exact rfl;exact rfl;exact trivial;intro L;apply bt_;exact rfl;exact rfl;omega) | (apply bj_;exact rfl;exact rfl;exact trivial;apply bc_;exact rfl;exact hreg _ ha) | (apply be_;exact rfl;exact rfl;exact trivial;intro L;apply bu_;exact rfl;exact rfl;apply ms_;omega;exact hsh) | refine aM ?_ | refine aN ?_ | refine aD ?_ | (apply be_;exact rfl;exact rfl;exact gY;intro L;apply bu_;exact rfl;exact rfl;exact tt_) | refine aL ?_ | refine bz_ ?_)
   repeat (first | (apply wo_po;apply fe_;exact rfl;exact hcv;exact trivial) | refine wS ?_ | (refine wR ?_;try simp only [oS]) | refine ba_ ?_ | refine wM ?_ | refine wN ?_ | refine wD ?_ | refine wL ?_ | refine wT ?_)
   refine fk_ (arr xb 0 (inC ⟨21,on,a,b,c,d,n⟩)::arr tb 0 (bh_ cv (Mach.own t ⟨21,on,a,b,c,d,n⟩) (.slice (some ⟨ab,ao,none⟩) an ac))::F) (fd_ (by rw [show Mach.own t ⟨21,on,a,b,c,d,n⟩={ t with pc:=n } from if_pos h0];rfl)) ?_
   (first | refine or0 Try.func109 Try.results109 hQ ?_ | refine on0 Try.func109 Try.results109 hQ ?_)
   exact ⟨_,rfl,rfl,rfl⟩
  ·have hc1:¬ (((t.r a/2^63)%18446744073709551616:Nat):Int)=1:=by omega
   refine bd_ Try.func109 rfl Try.ntmps109 (by simp) fun um Q _ hQ=>?_
   simp only [argE,Nat.zero_add,Nat.reduceAdd]
   repeat (first | (apply wo_mo;apply ct_;exact rfl;exact trivial) | refine bb_ ?_ | (refine wR ?_;try simp only [oS]))
   rintro v' L' ⟨xb,rfl,rfl⟩
   repeat (first | refine bb_ ?_ | (refine wR ?_;try simp only [oS]) | refine ba_ ?_ | refine wM ?_ | refine wA ?_ | refine wN ?_ | refine wD ?_)
   refine dy_ (arr xb 0 (inC ⟨21,on,a,b,c,d,n⟩)::arr tb 0 (bh_ cv { t with pc:=t.pc+1 } (.slice (some ⟨ab,ao,none⟩) an ac))::F) .refl ?_
   refine br_ (List.range' 0 11) (by kernel_rfl) ?_
   have hreg:=@hregs (arr xb 0 (inC ⟨21,on,a,b,c,d,n⟩))
   have hav:Rd (arr xb 0 (inC ⟨21,on,a,b,c,d,n⟩)::arr tb 0 (bh_ cv { t with pc:=t.pc+1 } (.slice (some ⟨ab,ao,none⟩) an ac))::F) tb 27 (.slice (some ⟨ab,ao,none⟩) an ac):=.there (.row0 rfl)
   repeat (first | (apply bj_;exact rfl;exact rfl;exact trivial;apply bc_;exact rfl;exact hav) | (apply be_;exact rfl;exact rfl;exact trivial;intro L;apply fs_;exact rfl;exact rfl;omega) | refine aM ?_ | refine aA ?_ | refine aN ?_ | refine aD ?_ | refine aL ?_ | refine bz_ ?_)
   repeat (first | refine weqlT ?_ | refine weqlF ?_ | refine bb_ ?_ | (refine wR ?_;try simp only [oS]) | refine ba_ ?_ | refine wA ?_ | refine wD ?_ | refine wL ?_ | refine wT ?_ | refine wF ?_ | refine bf_ ?_)
   refine br_ (List.range' 0 8) (by kernel_rfl) ?_
   repeat (first | (apply be_;exact rfl;exact rfl;exact trivial;intro L;apply bt_;exact rfl;exact rfl;omega) | (apply bj_;exact rfl;exact rfl;exact trivial;apply bc_;exact rfl;exact hreg _ ha) | (apply be_;exact rfl;exact rfl;exact trivial;intro L;apply bu_;exact rfl;exact rfl;apply ms_;omega;exact hsh) | refine aM ?_ | refine aN ?_ | refine aD ?_ | (apply be_;exact rfl;exact rfl;exact gY;intro L;apply bu_;exact rfl;exact rfl;exact tt_) | refine aL ?_ | refine bz_ ?_)
   repeat (first | refine wF ?_ | refine bk_ ?_)
   refine fk_ (arr xb 0 (inC ⟨21,on,a,b,c,d,n⟩)::arr tb 0 (bh_ cv (Mach.own t ⟨21,on,a,b,c,d,n⟩) (.slice (some ⟨ab,ao,none⟩) an ac))::F) (fd_ (by rw [show Mach.own t ⟨21,on,a,b,c,d,n⟩={ t with pc:=t.pc+1 } from if_neg h0])) ?_
   (first | refine or0 Try.func109 Try.results109 hQ ?_ | refine on0 Try.func109 Try.results109 hQ ?_)
   exact ⟨_,rfl,rfl,rfl⟩
end
section
variable {B:Hand} [Lets B] {L F:List HProp} {x:B.X}
set_option maxHeartbeats 4000000 in
theorem zh_ {tb ab ao an ac:Nat} {w cv tv:Value} {cs:List Value} {told:List Nat} {t:Mach.Th} {i:Mach.In} (hop:i.op=22) (hi:i.ok=true) (hr:∀ j,t.r j<18446744073709551616) (hcall:t.call<an) (hcs:cs[2*t.call+1]?=some tv) (hl:told.length<1000000000) :
  Tr Try.prog B 109 [.pointer (some ⟨tb,0,none⟩),w,.agg (inC i).toArray] (arr tb 0 (bh_ cv { t with pc:=t.pc+1 } (.slice (some ⟨ab,ao,none⟩) an ac))::vec 2 (.slice (some ⟨ab,ao,none⟩) an ac) cs::vec 1 tv (told.map num)::F) x
   fun v L' x'=>∃ tv',v=.tuple #[]∧L'=arr tb 0 (bh_ cv { t with pc:=t.pc+1 } (.slice (some ⟨ab,ao,none⟩) an ac))::vec 2 (.slice (some ⟨ab,ao,none⟩) an ac) (cs.set (2*t.call+1) tv')::vec 1 tv' ((told++[t.r i.a]).map num)::F∧x'=x:=by
 refine fm_ (bp_ (.there (.there .here)) (bg_ (by omega))) ?_
 rintro ⟨ta,tn,tc,rfl,htn,_,hta,hta2⟩
 have htn':tn=told.length:=by simpa using htn.symm
 subst htn'
 refine Tr.post (R:=fun v L' x'=>∃ tv',v=.tuple #[]∧x'=x∧∀ h,Star L' h→Star (arr tb 0 (bh_ cv { t with pc:=t.pc+1 } (.slice (some ⟨ab,ao,none⟩) an ac))::vec 2 (.slice (some ⟨ab,ao,none⟩) an ac) (cs.set (2*t.call+1) tv')::vec 1 tv' ((told++[t.r i.a]).map num)::F) h) ?_ (by rintro v L' x' ⟨tv',rfl,rfl,hs⟩;exact ⟨_,⟨tv',rfl,rfl,rfl⟩,hs⟩)
 obtain ⟨op,on,a,b,c,d,n⟩:=i
 simp only [Mach.In.ok,Bool.and_eq_true,decide_eq_true_eq,Bool.or_eq_true,Bool.not_eq_true',decide_eq_false_iff_not] at hi hop
 obtain ⟨⟨⟨⟨⟨⟨⟨⟨⟨⟨_,_⟩,ha⟩,hb⟩,hc⟩,hd⟩,hon⟩,hn⟩,hj⟩,_⟩,_⟩:=hi
 subst hop
 have hcsl:2*t.call+1<cs.length:=(List.getElem?_eq_some_iff.1 hcs).1
 obtain ⟨G,hG⟩:∃ G,G=vec 2 (.slice (some ⟨ab,ao,none⟩) an ac) cs::vec 1 (.slice ta told.length tc) (told.map num)::F:=⟨_,rfl⟩
 rw [← hG]
 have hregs:∀ {e:HProp},∀ j,j<24→Rd (e::arr tb 0 (bh_ cv { t with pc:=t.pc+1 } (.slice (some ⟨ab,ao,none⟩) an ac))::G) tb (3+j) (num (t.r j)):=fun {e} j h=>xu_ (t:={ t with pc:=t.pc+1 }) (.there .here) h
 have htold:∀ {e e':HProp},Rd (e::e'::G) ab (ao+2*t.call+1) (.slice ta told.length tc):=fun {e e'}=>by
  rw [hG,Nat.add_assoc]
  exact df_ (.there (.there .here)) hcs
 refine bd_ Try.func109 rfl Try.ntmps109 (by simp) fun um Q _ hQ=>?_
 simp only [argE,Nat.zero_add,Nat.reduceAdd]
 repeat (first | (apply wo_mo;apply ct_;exact rfl;exact trivial) | refine bb_ ?_ | (refine wR ?_;try simp only [oS]))
 rintro v' L' ⟨xb,rfl,rfl⟩
 repeat (first | refine bb_ ?_ | (refine wR ?_;try simp only [oS]) | refine ba_ ?_ | refine wM ?_ | refine wA ?_ | refine wN ?_ | refine wD ?_)
 refine dy_ (arr xb 0 (inC ⟨22,on,a,b,c,d,n⟩)::arr tb 0 (bh_ cv { t with pc:=t.pc+1 } (.slice (some ⟨ab,ao,none⟩) an ac))::G) .refl ?_
 refine br_ (List.range' 0 11) (by kernel_rfl) ?_
 have hreg:=@hregs (arr xb 0 (inC ⟨22,on,a,b,c,d,n⟩))
 have hav:Rd (arr xb 0 (inC ⟨22,on,a,b,c,d,n⟩)::arr tb 0 (bh_ cv { t with pc:=t.pc+1 } (.slice (some ⟨ab,ao,none⟩) an ac))::G) tb 27 (.slice (some ⟨ab,ao,none⟩) an ac):=.there (.row0 rfl)
 repeat (first | (apply bj_;exact rfl;exact rfl;exact trivial;apply bc_;exact rfl;exact hav) | (apply be_;exact rfl;exact rfl;exact trivial;intro L;apply fs_;exact rfl;exact rfl;omega) | refine aM ?_ | refine aA ?_ | refine aN ?_ | refine aD ?_ | refine aL ?_ | refine bz_ ?_)
 repeat (first | refine weqlT ?_ | refine weqlF ?_ | refine bb_ ?_ | (refine wR ?_;try simp only [oS]) | refine ba_ ?_ | refine wA ?_ | refine wD ?_ | refine wL ?_ | refine wT ?_ | refine wF ?_ | refine bf_ ?_)
 refine br_ (List.range' 0 14) (by kernel_rfl) ?_
 repeat (first | (apply be_;exact rfl;exact rfl;exact trivial;intro L;apply bt_;exact rfl;exact rfl;omega) | (apply bj_;exact rfl;exact rfl;exact trivial;apply bc_;exact rfl;exact hreg _ ha) | (apply bj_;exact rfl;exact rfl;exact trivial;apply bc_;exact rfl;exact htold) | refine aM ?_ | refine aN ?_ | refine aD ?_ | refine aL ?_)
 refine fx_ rfl rfl rfl rfl trivial (bi_ (sz:=1) (vs:=[num (t.r a)]) rfl (.cons rfl .nil) rfl (by intro v hv;cases (List.mem_singleton.1 hv);exact rfl) (by omega)) ?_ ?_
 ·rintro v L' ⟨sb,rfl,rfl⟩ p hp
  replace hp:=(List.mem_filter.1 hp).1
  simp only [List.mem_cons,List.not_mem_nil,or_false] at hp
  rcases hp with rfl | rfl | rfl | rfl | rfl | rfl | rfl | rfl | rfl | rfl <;> first | exact .inl rfl | exact .inr ⟨_,rfl,trivial,bc_ rfl (Rd.there (hreg _ ha))⟩ | exact .inr ⟨_,rfl,trivial,bc_ rfl (Rd.there (Rd.row0 rfl))⟩ | exact .inr ⟨_,rfl,trivial,bc_ rfl (Rd.there htold)⟩
 rintro v' L' ⟨sb,rfl,rfl⟩
 subst hG
 refine cg_ rfl rfl rfl rfl rfl trivial (cf_ (sz:=1) (new:=[num (t.r a)]) rfl rfl rfl rfl (.there (.there (.there (.there .here)))) rfl (.inr ⟨_,_,rfl,Rds.all .here⟩) (by intro v hv;cases (List.mem_singleton.1 hv);exact rfl) (by simp only [cj_];omega)) ?_
 rintro v' L' rfl
 refine gv_ (bp_ .here (bg_ (by omega))) ?_
 rintro ⟨qa,ql,qc,rfl,_⟩
 repeat (first | refine aN ?_)
 have hw:=fun {X1 X2 X3 X4:HProp} {G:List HProp}=>hr_ (L:=X1::X2::X3::X4::vec 2 (.slice (some ⟨ab,ao,none⟩) an ac) cs::G) (v:=.slice qa ql qc) (.there (.there (.there (.there .here)))) hcsl
 rw [← Nat.add_assoc] at hw
 refine cg_ rfl rfl rfl rfl rfl trivial (cq_ rfl rfl rfl hw) ?_
 rintro v' L' ⟨rfl,rfl⟩
 refine bz_ ?_
 skip
 (first | refine or0 Try.func109 Try.results109 hQ ?_ | refine on0 Try.func109 Try.results109 hQ ?_)
 refine ⟨.slice qa ql qc,rfl,rfl,fun h st=>?_⟩
 rw [show (told++[t.r a]).map num=told.map num++[num (t.r a)] by simp]
 refine Ent.star ?_ st
 exact .take (.there (.there (.there (.there .here)))) (.take .here (.take .here (.drop (.drop .refl))))
end
end Go.Proofs.Ytnnpdmhmpgmpnaa
