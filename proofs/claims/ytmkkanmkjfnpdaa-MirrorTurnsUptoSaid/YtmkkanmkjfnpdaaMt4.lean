/-
  Part 4 of 8.
-/
import Derived.Test.YtmkkanmkjfnpdaaMt3
import Derived.Test.YtmkkanmkjfnpdaaMt2
set_option linter.unusedVariables false
set_option linter.unusedSimpArgs false
namespace Go.PB
theorem zip_set {α β γ:Type} {f:α→β→γ} {b:β}:∀ {k:Nat} {xs:List α} {ys:List β} {a:α},xs[k]?=some a→List.zipWith f xs (ys.set k b)=(List.zipWith f xs ys).set k (f a b)
 | _,[],_,_,h=>by simp at h
 | _,x::xs,[],_,_=>rfl
 | 0,x::xs,y::ys,a,h=>by simp at h;subst h;rfl
 | k+1,x::xs,y::ys,a,h=>by simp only [List.set_cons_succ,List.zipWith_cons_cons];rw [zip_set (by simpa using h)]
theorem set_same {α:Type} {l:List α} {k:Nat} {a:α} (h:l[k]?=some a):l.set k a=l:=by
 obtain ⟨h1,h2⟩:=List.getElem?_eq_some_iff.1 h
 subst h2
 exact List.set_getElem_self h1
end Go.PB
namespace Go.Proofs.Ytmkkanmkjfnpdaa
open Go Go.PB
attribute [local irreducible] Mo Bin Eql Tr Wo Ap Wle
structure PS (g:Game) where
 s:g.σ
 qs:List g.θ
 tr:List (Nat × (Int × Int))
def takeF {g:Game} (p:PS g) (k:Int):PS g × Bool :=
 if k<0 then (p,false) else
 match p.qs[k.toNat]? with
 | none=>(p,false)
 | some q=>match g.plan q with
  | none=>(p,false)
  | some (m,f)=>if p.tr.length=16384 then (p,false) else (⟨(f p.s).1,p.qs.set k.toNat (f p.s).2,p.tr++[(k.toNat,m)]⟩,true)
structure SId where
 sb:Nat
 says:Nat
 turn:Nat
 fin:Nat
def trCP (tr:List (Nat × (Int × Int))):List Value:=(tr.map fun t=>[.int .i64 (t.1:Nat),.int .u8 t.2.1,.int .i64 t.2.2]).flatten
theorem trCP_len {tr:List (Nat × (Int × Int))}:(trCP tr).length=tr.length*3:=flat_len (f:=fun t:Nat × (Int × Int)=>[Value.int .i64 (t.1:Nat),.int .u8 t.2.1,.int .i64 t.2.2]) (k:=3) (fun _=>rfl) tr
theorem trCP_app {tr:List (Nat × (Int × Int))} {k:Nat} {m:Int × Int}:trCP (tr++[(k,m)])=trCP tr++[.int .i64 (k:Nat),.int .u8 m.1,.int .i64 m.2]:=by simp [trCP]
def ptrs (ids:List SId):List Value:=ids.map fun i=>.pointer (some ⟨i.sb,0,none⟩)
abbrev lastQ (g:Game) (q:g.θ):List Value:=lastC ((g.plan q).map (·.1))
def seatC (g:Game) (i:SId) (q:g.θ):HProp:=all [seatR i.sb i.says i.turn i.fin,arr i.sb 3 (lastQ g q)]
def seatCs (g:Game) (ids:List SId) (qs:List g.θ):List HProp:=List.zipWith (seatC g) ids qs
def seatS {g:Game} (i:SId) (q:g.θ):Seat g.σ g.θ:=⟨i.says,i.turn,i.fin,.said q⟩
def seatSs {g:Game} (ids:List SId) (qs:List g.θ):List (Seat g.σ g.θ):=List.zipWith seatS ids qs
section
variable {g:Game} {wg pb:Nat} {ss ts cs:Value} {ids:List SId} {p:PS g} {F:List HProp}
abbrev playL (g:Game) (pb:Nat) (ss ts cs:Value) (ids:List SId) (p:PS g) (F:List HProp):List HProp :=
 g.U p.s::arr pb 0 [ss,ts,cs]::vec 1 ss (ptrs ids)::vec 3 ts (trCP p.tr)::all (seatCs g ids p.qs)::F
abbrev playX (g:Game) (wg:Nat) (ids:List SId) (p:PS g):MX:=gx g wg (seatSs ids p.qs) (some p.s) (16384-p.tr.length) ids.length
theorem takeF_len (k:Int):(takeF p k).1.qs.length=p.qs.length:=by
 unfold takeF
 split
 ·rfl
 split
 ·rfl
 split
 ·rfl
 split
 ·rfl
 ·simp
theorem takeF_le (h:p.tr.length≤16384) (k:Int):(takeF p k).1.tr.length≤16384:=by
 unfold takeF
 split
 ·exact h
 split
 ·exact h
 split
 ·exact h
 split
 ·exact h
 ·simp;omega
theorem take_out {k:Int} (hl:ids.length=p.qs.length) (hk:k<0∨(ids.length:Int)≤k) :
  Tr Try.prog mT 58 [.pointer (some ⟨pb,0,none⟩),.int .i64 k] (playL g pb ss ts cs ids p F) (playX g wg ids p) fun v L' x'=>v=.bool false∧L'=playL g pb ss ts cs ids p F∧x'=playX g wg ids p:=by
 refine tr_pure (of_has (.there (.there .here)) (vec_shape (by omega))) ?_
 rintro ⟨a,n,c,rfl,hn,_⟩
 have hn:n=ids.length:=by simp [ptrs] at hn;omega
 subst hn
 by_cases h0:k<0
 ·refine tr_of_body Try.func58 rfl Try.ntmps58 (by simp) fun um Q _ hQ=>?_
  simp only [argE,Nat.zero_add,Nat.reduceAdd]
  repeat (first | refine wlssT ?_ | refine we_seq ?_ | (refine wR ?_;try simp only [oS]) | refine wo_nil ?_ | refine wM ?_ | refine wA ?_ | (apply wo_no;exact rfl) | refine wK ?_ | refine wT ?_ | refine we_ret ?_)
  (first | refine or1 Try.func58 Try.results58 hQ rfl ?_ | refine on1 Try.func58 Try.results58 hQ rfl ?_)
  exact ⟨rfl,rfl,rfl⟩
 ·refine tr_of_body Try.func58 rfl Try.ntmps58 (by simp) fun um Q _ hQ=>?_
  simp only [argE,Nat.zero_add,Nat.reduceAdd]
  repeat (first | refine wlssF ?_ | refine wgeqT ?_ | refine we_seq ?_ | (refine wR ?_;try simp only [oS]) | refine wo_nil ?_ | refine wM ?_ | refine wA ?_ | (apply wo_no;exact rfl) | refine wK ?_ | refine wJ ?_ | refine wN ?_ | refine wD ?_ | refine wL ?_ | refine wE ?_ | refine wT ?_ | refine we_ret ?_)
  (first | refine or1 Try.func58 Try.results58 hQ rfl ?_ | refine on1 Try.func58 Try.results58 hQ rfl ?_)
  exact ⟨rfl,rfl,rfl⟩
theorem seat_pick {k:Nat} {i:SId} {q:g.θ} {L:List HProp} {h:Hp} (hi:ids[k]?=some i) (hq:p.qs[k]?=some q) (st:Star (all (seatCs g ids p.qs)::L) h) :
  Star (seatR i.sb i.says i.turn i.fin::arr i.sb 3 (lastQ g q)::all ((seatCs g ids p.qs).eraseIdx k)::L) h:=by
 have e:(seatCs g ids p.qs)[k]?=some (seatC g i q):=by simp [seatCs,List.getElem?_zipWith,hi,hq]
 exact star_open (M:=[_,_]) (star_pick e st)
theorem seat_put {k:Nat} {i:SId} {q q':g.θ} {L:List HProp} {h:Hp} (hi:ids[k]?=some i) (hq:p.qs[k]?=some q) (st:Star (seatR i.sb i.says i.turn i.fin::arr i.sb 3 (lastQ g q')::all ((seatCs g ids p.qs).eraseIdx k)::L) h) :
  Star (all (seatCs g ids (p.qs.set k q'))::L) h:=by
 have hlt:k<(seatCs g ids p.qs).length:=by
  have h1:=(List.getElem?_eq_some_iff.1 hi).1
  have h2:=(List.getElem?_eq_some_iff.1 hq).1
  simp [seatCs];omega
 have e:seatCs g ids (p.qs.set k q')=(seatCs g ids p.qs).set k (seatC g i q'):=zip_set hi
 rw [e]
 exact star_put hlt (star_shut (M:=[_,_]) st)
theorem take_no {k:Nat} {i:SId} {q:g.θ} (hi:ids[k]?=some i) (hq:p.qs[k]?=some q) (hno:g.plan q=none∨p.tr.length=16384) :
  Tr Try.prog mT 58 [.pointer (some ⟨pb,0,none⟩),.int .i64 (k:Nat)] (playL g pb ss ts cs ids p F) (playX g wg ids p) fun v L' x'=>v=.bool false∧L'=playL g pb ss ts cs ids p F∧x'=playX g wg ids p:=by
 have hk:=(List.getElem?_eq_some_iff.1 hi).1
 refine tr_pure (of_has (.there (.there .here)) (vec_shape (by omega))) ?_
 rintro ⟨a,n,c,rfl,hn,_,hnz,hy⟩
 have hn:n=ids.length:=by simp [ptrs] at hn;omega
 subst hn
 refine tr_pure (of_has (.there (.there (.there .here))) (vec_shape (by omega))) ?_
 rintro ⟨ta,tn,tc,rfl,htn,_⟩
 have htn:tn=p.tr.length:=by rw [trCP_len] at htn;omega
 subst htn
 cases a with
 | none=>have:=hnz rfl;omega
 | some ad =>
 obtain ⟨b,o,sp⟩:=ad
 have:=hy _ rfl
 simp only [Addr.mk.injEq,true_and] at this
 subst this
 refine Tr.post (R:=fun v L' x'=>v=.bool false∧x'=playX g wg ids p∧∀ h,Star L' h→Star (playL g pb (.slice (some ⟨b,o,none⟩) ids.length c) (.slice ta p.tr.length tc) cs ids p F) h) ?_
  (by rintro v L' x' ⟨rfl,rfl,h2⟩;exact ⟨_,⟨rfl,rfl,rfl⟩,h2⟩)
 let L1:List HProp:=seatR i.sb i.says i.turn i.fin::arr i.sb 3 (lastQ g q)::all ((seatCs g ids p.qs).eraseIdx k)::g.U p.s::arr pb 0 [.slice (some ⟨b,o,none⟩) ids.length c,.slice ta p.tr.length tc,cs]::vec 1 (.slice (some ⟨b,o,none⟩) ids.length c) (ptrs ids)::vec 3 (.slice ta p.tr.length tc) (trCP p.tr)::F
 refine tr_star L1 (fun h st=>seat_pick hi hq (((.there (.there (.there (.there .here)))):Has (playL g pb _ _ cs ids p F) _ _).star st)) ?_
 have hback:∀ h,Star L1 h→Star (playL g pb (.slice (some ⟨b,o,none⟩) ids.length c) (.slice ta p.tr.length tc) cs ids p F) h:=fun h st=>by
  have s1:=seat_put (q':=q) hi hq st
  have e:p.qs.set k q=p.qs:=set_same hq
  rw [e] at s1
  exact Ent.star (.take (.there .here) (.take (.there .here) (.take (.there .here) (.take (.there .here) (.take .here .refl))))) s1
 have rs:Rd L1 b (o+k) (.pointer (some ⟨i.sb,0,none⟩)):=rd_vec (cs:=ptrs ids) (.there (.there (.there (.there (.there .here))))) (by simp [ptrs,hi])
 have hlast:∃ m1 m2 q3,lastQ g q=[.int .u8 m1,.int .i64 m2,.bool q3]∧(q3=true∨(q3=false∧p.tr.length=16384)):=by
  unfold lastQ
  cases hp:g.plan q with
  | none=>exact ⟨_,_,_,rfl,.inl rfl⟩
  | some mf =>
   refine ⟨_,_,_,rfl,.inr ⟨rfl,hno.resolve_left (by rw [hp];simp)⟩⟩
 obtain ⟨m1,m2,q3,hl,hq3⟩:=hlast
 have rl:Rd L1 i.sb 5 (.bool q3):=Rd.of (.there .here) (by rw [hl];exact Rd.row (k:=2) rfl rfl)
 rcases hq3 with rfl | ⟨rfl,htr⟩
 ·refine tr_of_body Try.func58 rfl Try.ntmps58 (by simp) fun um Q _ hQ=>?_
  simp only [argE,Nat.zero_add,Nat.reduceAdd]
  repeat (first | (apply wo_po;apply mo_index1;exact rfl;exact rfl;omega;exact gY) | (apply wo_po;apply mo_load;exact rfl;(first | exact rs | exact rl | exact Rd.of (.there (.there (.there (.there .here)))) (Rd.row0 rfl));exact gY) | refine wlssF ?_ | refine wgeqF ?_ | refine we_seq ?_ | (refine wR ?_;try simp only [oS]) | refine wo_nil ?_ | refine wM ?_ | refine wA ?_ | (apply wo_no;exact rfl) | refine wK ?_ | refine wJ ?_ | refine wN ?_ | refine wD ?_ | refine wE ?_ | refine wT ?_ | refine we_ret ?_)
  (first | refine or1 Try.func58 Try.results58 hQ rfl ?_ | refine on1 Try.func58 Try.results58 hQ rfl ?_)
  exact ⟨rfl,rfl,hback⟩
 ·refine tr_of_body Try.func58 rfl Try.ntmps58 (by simp) fun um Q _ hQ=>?_
  simp only [argE,Nat.zero_add,Nat.reduceAdd]
  repeat (first | (apply wo_po;apply mo_index1;exact rfl;exact rfl;omega;exact gY) | (apply wo_po;apply mo_load;exact rfl;(first | exact rs | exact rl | exact Rd.of (.there (.there (.there (.there .here)))) (Rd.row0 rfl));exact gY) | refine wlssF ?_ | refine wgeqF ?_ | refine weqlT ?_ | refine we_seq ?_ | (refine wR ?_;try simp only [oS]) | refine wo_nil ?_ | refine wM ?_ | refine wA ?_ | refine wJ ?_ | refine wN ?_ | refine wD ?_ | refine wE ?_ | refine wT ?_ | refine we_ret ?_)
  (first | refine or1 Try.func58 Try.results58 hQ rfl ?_ | refine on1 Try.func58 Try.results58 hQ rfl ?_)
  exact ⟨rfl,rfl,hback⟩
theorem take_yes {k:Nat} {i:SId} {q:g.θ} {m:Int × Int} {f:g.σ→g.σ × g.θ} (hl:ids.length=p.qs.length) (hi:ids[k]?=some i) (hq:p.qs[k]?=some q) (hpl:g.plan q=some (m,f)) (htr:p.tr.length<16384) (hok:g.ok p.s) :
  Tr Try.prog mT 58 [.pointer (some ⟨pb,0,none⟩),.int .i64 (k:Nat)] (playL g pb ss ts cs ids p F) (playX g wg ids p) fun v L' x'=>∃ ts',v=.bool true∧L'=playL g pb ss ts' cs ids ⟨(f p.s).1,p.qs.set k (f p.s).2,p.tr++[(k,m)]⟩ F∧x'=playX g wg ids ⟨(f p.s).1,p.qs.set k (f p.s).2,p.tr++[(k,m)]⟩:=by
 have hk:=(List.getElem?_eq_some_iff.1 hi).1
 refine tr_pure (of_has (.there (.there .here)) (vec_shape (by omega))) ?_
 rintro ⟨a,n,c,rfl,hn,_,hnz,hy⟩
 have hn:n=ids.length:=by simp [ptrs] at hn;omega
 subst hn
 refine tr_pure (of_has (.there (.there (.there .here))) (vec_shape (by omega))) ?_
 rintro ⟨ta,tn,tc,rfl,htn,_⟩
 have htn:tn=p.tr.length:=by rw [trCP_len] at htn;omega
 subst htn
 cases a with
 | none=>have:=hnz rfl;omega
 | some ad =>
 obtain ⟨b,o,sp⟩:=ad
 have:=hy _ rfl
 simp only [Addr.mk.injEq,true_and] at this
 subst this
 refine Tr.post (R:=fun v L' x'=>∃ ts',v=.bool true∧x'=playX g wg ids ⟨(f p.s).1,p.qs.set k (f p.s).2,p.tr++[(k,m)]⟩∧∀ h,Star L' h→Star (playL g pb (.slice (some ⟨b,o,none⟩) ids.length c) ts' cs ids ⟨(f p.s).1,p.qs.set k (f p.s).2,p.tr++[(k,m)]⟩ F) h) ?_
  (by rintro v L' x' ⟨ts',rfl,rfl,h2⟩;exact ⟨_,⟨ts',rfl,rfl,rfl⟩,h2⟩)
 have hlq:lastQ g q=[.int .u8 m.1,.int .i64 m.2,.bool false]:=by unfold lastQ;rw [hpl];rfl
 let er:=all ((seatCs g ids p.qs).eraseIdx k)
 let L1:List HProp:=seatR i.sb i.says i.turn i.fin::arr i.sb 3 [.int .u8 m.1,.int .i64 m.2,.bool false]::arr pb 0 [.slice (some ⟨b,o,none⟩) ids.length c,.slice ta p.tr.length tc,cs]::vec 3 (.slice ta p.tr.length tc) (trCP p.tr)::vec 1 (.slice (some ⟨b,o,none⟩) ids.length c) (ptrs ids)::g.U p.s::er::F
 refine tr_star L1 (fun h st=>by have:=seat_pick hi hq (((.there (.there (.there (.there .here)))):Has (playL g pb _ _ cs ids p F) _ _).star st);rw [hlq] at this;exact Ent.star (.take .here (.take .here (.take (.there (.there .here)) (.take (.there (.there (.there .here))) (.take (.there (.there .here)) (.take (.there .here) (.take .here .refl))))))) this) ?_
 have rs:Rd L1 b (o+k) (.pointer (some ⟨i.sb,0,none⟩)):=rd_vec (cs:=ptrs ids) (.there (.there (.there (.there .here)))) (by simp [ptrs,hi])
 have rl:Rd L1 i.sb 5 (.bool false):=.there (Rd.row (k:=2) rfl rfl)
 have rt:Rd L1 i.sb 0 (.chan (some i.turn)):=Rd.fro (k:=0) rfl rfl
 have hsz:(seatSs ids p.qs).length=ids.length:=by simp [seatSs];omega
 have hsk:(seatSs ids p.qs)[k]?=some (⟨i.says,i.turn,i.fin,.said q⟩:Seat g.σ g.θ):=by simp [seatSs,List.getElem?_zipWith,hi,hq,seatS]
 refine tr_of_body Try.func58 rfl Try.ntmps58 (by simp) fun um Q _ hQ=>?_
 simp only [argE,Nat.zero_add,Nat.reduceAdd]
 repeat (first | (apply wo_po;apply mo_index1;exact rfl;exact rfl;omega;exact gY) | (apply wo_po;apply mo_load;exact rfl;(first | exact rs | exact rl | exact Rd.of (.there (.there .here)) (Rd.row0 rfl));exact gY) | refine wlssF ?_ | refine wgeqF ?_ | refine weqlF ?_ | refine we_seq ?_ | (refine wR ?_;try simp only [oS]) | refine wo_nil ?_ | refine wM ?_ | refine wA ?_ | refine wJ ?_ | refine wN ?_ | refine wD ?_ | refine wE ?_ | refine wF ?_ | refine we_skip ?_)
 refine we_draw (List.range' 0 19) (by kernel_rfl) ?_
 repeat (first | (apply ap_read;exact rfl;exact rfl;exact trivial;apply mo_load;exact rfl;exact Rd.of (.there (.there .here)) (Rd.row0 rfl)) | (apply ap_read;exact rfl;exact rfl;exact trivial;apply mo_loadA (vs:=[.int .u8 m.1,.int .i64 m.2]);exact rfl;exact rfl;exact Rds.row (k:=0) (.there .here) (by intro i v hv;match i,hv with | 0,hv=>exact hv | 1,hv=>exact hv)) | (apply ap_pure;exact rfl;exact rfl;exact trivial;intro L;apply mo_build (pv:=[(0,_),(1,_)]);exact rfl;exact .cons rfl (.cons rfl .nil);exact rfl) | refine aM ?_ | refine aN ?_ | refine aD ?_)
 have hone:∀ v∈[Value.int .i64 (k:Nat),.int .u8 m.1,.int .i64 m.2],one v=true:=by intro v hv;simp at hv;rcases hv with rfl | rfl | rfl <;> rfl
 refine ap_loudR rfl rfl rfl rfl trivial (mo_buildSlice (sz:=3) (vs:=[.agg #[.int .i64 (k:Nat),.int .u8 m.1,.int .i64 m.2]]) rfl (.cons rfl .nil) rfl (by intro v hv;cases (List.mem_singleton.1 hv);exact rfl) (by omega)) ?_ ?_
 ·rintro v L ⟨nb,rfl,rfl⟩ p hp
  replace hp:=(List.mem_filter.1 hp).1
  simp only [List.mem_cons,List.not_mem_nil,or_false] at hp
  rcases hp with rfl | rfl | rfl | rfl | rfl | rfl | rfl | rfl | rfl | rfl | rfl | rfl | rfl <;> first | exact .inl rfl | exact .inr ⟨_,rfl,trivial,mo_load rfl (Rd.of (.there (.there (.there .here))) (Rd.row0 rfl))⟩ | exact .inr ⟨_,rfl,trivial,mo_loadA rfl rfl (Rds.row (k:=0) (.there (.there .here)) (by intro i v hv;match i,hv with | 0,hv=>exact hv | 1,hv=>exact hv))⟩
 rintro v' L' ⟨nb,rfl,rfl⟩
 refine ap_loud rfl rfl rfl rfl rfl trivial (mo_append (sz:=3) (new:=[.int .i64 (k:Nat),.int .u8 m.1,.int .i64 m.2]) rfl rfl rfl rfl (.there (.there (.there (.there .here)))) rfl (.inr ⟨_,_,rfl,Rds.all .here⟩) hone (by simp only [sliceLen];omega)) ?_
 rintro v' L' rfl
 refine ap_know (of_has .here (vec_shape (by omega))) ?_
 rintro ⟨ua,un,uc,rfl,_⟩
 repeat (first | refine aN ?_ | refine aD ?_)
 refine ap_loud rfl rfl rfl rfl rfl trivial (mo_store rfl rfl rfl (Wt.row0 (k:=1) (.there (.there (.there (.there .here)))) (Nat.lt_of_sub_eq_succ rfl))) ?_
 rintro v' L' ⟨rfl,rfl⟩
 refine ap_end ?_
 have rt2:∀ {A C D:HProp} {M:List HProp},Rd (A::C::seatR i.sb i.says i.turn i.fin::D::M) i.sb 0 (.chan (some i.turn)):=.there (.there (Rd.fro (k:=0) rfl rfl))
 repeat (first | (apply wo_po;apply mo_load;exact rfl;exact rt2;exact gY) | (apply wo_po;apply mo_build (pv:=[]);exact rfl;exact .nil;exact rfl;exact trivial) | refine we_seq ?_ | (refine wR ?_;try simp only [oS]) | refine wM ?_ | refine wN ?_ | refine wD ?_)
 refine wo_turn (X:=⟨g,wg,seatSs ids p.qs,some p.s,16384-p.tr.length,ids.length,false,.play,none,0⟩) (j:=k) (lf:=16384-(p.tr.length+1)) (c:=⟨i.says,i.turn,i.fin,.said q⟩) (s:=p.s) (q:=q) rfl rfl rfl rfl hsk rfl hpl rfl (by show 16384-p.tr.length=_;omega) (by show ids.length=_;rw [hsz]) hok (.there (.there (.there (.there (.there (.there .here)))))) trivial ?_
 have rs2:∀ {A C D:HProp} {M:List HProp},Rd (A::C::seatR i.sb i.says i.turn i.fin::D::M) i.sb 2 (.chan (some i.says)):=.there (.there (Rd.fro (k:=2) rfl rfl))
 repeat (first | (apply wo_po;apply mo_load;exact rfl;exact rs2;exact gY) | refine we_seq ?_ | (refine wR ?_;try simp only [oS]) | refine wo_nil ?_ | refine wM ?_ | refine wN ?_ | refine wD ?_)
 refine wo_hear (X:=⟨g,wg,(seatSs ids p.qs).set k ⟨i.says,i.turn,i.fin,.run (f p.s).1 (f p.s).2⟩,none,16384-(p.tr.length+1),ids.length,false,.play,none,0⟩) (j:=k) (c:=⟨i.says,i.turn,i.fin,.run (f p.s).1 (f p.s).2⟩) (s:=(f p.s).1) (q:=(f p.s).2) rfl rfl rfl (List.getElem?_set_self (by rw [hsz];exact hk)) rfl rfl trivial ?_
 have hc:=lastC_says (g:=g) (q:=(f p.s).2)
 have hov:over [.int .u8 m.1,.int .i64 m.2,.bool false] 0 (g.says (f p.s).2).cells.toList=lastQ g (f p.s).2:=by
  rw [hc];unfold over;simp [lastC_len]
 repeat (first | refine wN ?_ | refine wD ?_)
 apply wo_pm
 exact mo_storeA (n:=3) (c:=3) (k:=0) (a:=3) (vs:=[.int .u8 m.1,.int .i64 m.2,.bool false]) rfl rfl (by rw [← Array.length_toList,hc];exact lastC_len) (by rw [hc];exact lastC_one) rfl (Nat.le_refl 3) (.there (.there (.there (.there .here))))
 exact trivial
 rw [hov]
 have hset:((seatSs ids p.qs).set k ⟨i.says,i.turn,i.fin,.run (f p.s).1 (f p.s).2⟩).set k ⟨i.says,i.turn,i.fin,.said (f p.s).2⟩=seatSs ids (p.qs.set k (f p.s).2):=by
  rw [List.set_set];exact (zip_set (f:=seatS) hi).symm
 repeat (first | refine we_seq ?_ | (refine wR ?_;try simp only [oS]) | refine wo_nil ?_ | refine wA ?_ | refine we_ret ?_)
 (first | refine or1 Try.func58 Try.results58 hQ rfl ?_ | refine on1 Try.func58 Try.results58 hQ rfl ?_)
 refine ⟨.slice ua un uc,rfl,?_,fun h st=>?_⟩
 ·show gx g wg (((seatSs ids p.qs).set k ⟨i.says,i.turn,i.fin,.run (f p.s).1 (f p.s).2⟩).set k ⟨i.says,i.turn,i.fin,.said (f p.s).2⟩) _ _ _=gx g wg _ _ _ _
  rw [hset]
  simp
 ·have st1:Star (seatR i.sb i.says i.turn i.fin::arr i.sb 3 (lastQ g (f p.s).2)::er::g.U (f p.s).1::arr pb 0 [.slice (some ⟨b,o,none⟩) ids.length c,.slice ua un uc,cs]::vec 1 (.slice (some ⟨b,o,none⟩) ids.length c) (ptrs ids)::vec 3 (.slice ua un uc) (trCP p.tr++[.int .i64 (k:Nat),.int .u8 m.1,.int .i64 m.2])::F) h:=Ent.star (.take (.there (.there (.there .here))) (.take (.there (.there (.there .here))) (.take (.there (.there (.there (.there (.there .here))))) (.take .here (.take (.there (.there .here)) (.take (.there (.there .here)) (.take .here (.drop .refl)))))))) st
  rw [← trCP_app] at st1
  have s1:=seat_put hi hq st1
  exact Ent.star (.take (.there .here) (.take (.there .here) (.take (.there .here) (.take (.there .here) (.take .here .refl))))) s1
theorem takes_tr {k:Int} (hl:ids.length=p.qs.length) (hle:p.tr.length≤16384) (hok:p.tr.length<16384→g.ok p.s) :
  Tr Try.prog mT 58 [.pointer (some ⟨pb,0,none⟩),.int .i64 k] (playL g pb ss ts cs ids p F) (playX g wg ids p) fun v L' x'=>∃ ts',v=.bool (takeF p k).2∧L'=playL g pb ss ts' cs ids (takeF p k).1 F∧x'=playX g wg ids (takeF p k).1:=by
 by_cases h0:k<0
 ·rw [show takeF p k=(p,false) by unfold takeF;rw [if_pos h0]]
  exact (take_out hl (.inl h0)).mono fun v L' x' h=>⟨ts,h⟩
 obtain ⟨n,rfl⟩:∃ n:Nat,k=n:=⟨k.toNat,by omega⟩
 cases hq:p.qs[n]? with
 | none =>
  have:=List.getElem?_eq_none_iff.1 hq
  rw [show takeF p (n:Int)=(p,false) by unfold takeF;rw [if_neg h0,Int.toNat_natCast,hq]]
  exact (take_out hl (.inr (by omega))).mono fun v L' x' h=>⟨ts,h⟩
 | some q =>
  have hn:=(List.getElem?_eq_some_iff.1 hq).1
  have hi:ids[n]?=some (ids[n]'(by omega)):=List.getElem?_eq_getElem _
  cases hpl:g.plan q with
  | none =>
   rw [show takeF p (n:Int)=(p,false) by unfold takeF;rw [if_neg h0,Int.toNat_natCast,hq];simp only [hpl]]
   exact (take_no hi hq (.inl hpl)).mono fun v L' x' h=>⟨ts,h⟩
  | some mf =>
   obtain ⟨m,f⟩:=mf
   by_cases htr:p.tr.length=16384
   ·rw [show takeF p (n:Int)=(p,false) by unfold takeF;rw [if_neg h0,Int.toNat_natCast,hq];simp only [hpl,if_pos htr]]
    exact (take_no hi hq (.inr htr)).mono fun v L' x' h=>⟨ts,h⟩
   ·rw [show takeF p (n:Int)=(⟨(f p.s).1,p.qs.set n (f p.s).2,p.tr++[(n,m)]⟩,true) by unfold takeF;rw [if_neg h0,Int.toNat_natCast,hq];simp only [hpl,if_neg htr]]
    exact (take_yes hl hi hq hpl (by omega) (hok (by omega))).mono fun v L' x' h=>h
end
end Go.Proofs.Ytmkkanmkjfnpdaa
namespace Go.PB
section
variable {P:Program} {B:Hand} {kd:CallKind} {n:Nat} {ops:Array Oper} {ord R:List Nat} {Pd:List Pn} {K:Post B} {e:Env} {z:Z} {L:List HProp} {x:B.X}
theorem ap1_swap {i f:Nat} {ord' R' pre idx:List Nat} {t:Array Value} {h:Hp} (hf:R.contains f=true) (hR:R.erase f=R') (hord:ord'=(ord.takeWhile fun q=>!(q == i))++f::i::R') (hok:okOrd n ops ord'=true)
  (b:Ap1 P B kd n ops ord' f (i::R') Pd K e z L x) (hpre:ord=pre++i::R) (hin:∀ p∈Pd,p.i∈pre) (ok:OkO n ops ord) (hpd:∀ p∈Pd,PdOk P n ops L p) (I:InvA n ops (i::R) Pd e (f::idx) t) (s:Star L h):Wr P B kd ops (f::idx) K t z h x:=by
 subst hR
 have hfR:f∈R:=by simpa using hf
 have hnd:(pre++i::R).Nodup:=hpre▸ok.nd
 have htw:ord.takeWhile (fun q=>!(q == i))=pre:=by rw [hpre];exact takeWhile_pre hnd
 have hnd2:=List.nodup_cons.1 (List.nodup_append.1 hnd).2.1
 have hmem:∀ y,(y∈f::i::R.erase f)↔y∈i::R:=by
  intro y
  simp only [List.mem_cons,hnd2.2.mem_erase_iff]
  constructor
  ·rintro (rfl | rfl | ⟨_,h⟩)
   ·exact .inr hfR
   ·exact .inl rfl
   ·exact .inr h
  ·rintro (rfl | h)
   ·exact .inr (.inl rfl)
   ·by_cases e:y=f
    ·exact .inl e
    ·exact .inr (.inr ⟨e,h⟩)
 refine b ⟨pre,by rw [hord,htw],hin⟩ (okOrd_ok hok) hpd idx t h ⟨I.sz,I.nd,I.lt,fun q hq=>?_,fun q hq=>I.all q ((hmem q).1 hq),fun p hp hh=>I.dj p hp ((hmem _).1 hh),I.pu,I.resp,I.dn,I.envok,I.pok⟩ s
 rcases I.sub q hq with h1 | h1
 ·exact .inl ((hmem q).2 h1)
 ·exact .inr h1
theorem ap_fork3 [Lets B] {i f g:Nat} {ordf ordg Rf Rg:List Nat} (hdom:(R.all fun j=>j == f||j == g||(anc ops ops.size j).contains i)=true) (hf:R.contains f=true) (hRf:R.erase f=Rf) (hordf:ordf=(ord.takeWhile fun q=>!(q == i))++f::i::Rf) (hokf:okOrd n ops ordf=true)
  (hg:R.contains g=true) (hRg:R.erase g=Rg) (hordg:ordg=(ord.takeWhile fun q=>!(q == i))++g::i::Rg) (hokg:okOrd n ops ordg=true)
  (a:Ap1 P B kd n ops ord i R Pd K e z L x) (b:Ap1 P B kd n ops ordf f (i::Rf) Pd K e z L x) (c:Ap1 P B kd n ops ordg g (i::Rg) Pd K e z L x):Ap P B kd n ops ord (i::R) Pd K e z L x:=by
 rintro ⟨pre,hpre,hin⟩ ok hpd
 refine ap_run ok hpd (fun t h I s=>?_) (fun j idx t h hj I s=>?_)
 ·have:=I.all i (by simp);simp at this
 ·by_cases hji:j=i
  ·subst hji
   exact a ⟨pre,hpre,hin⟩ ok hpd idx t h I s
  ·have hjf:j=f∨j=g:=by
    rcases List.mem_cons.1 hj with h1 | h1
    ·exact absurd h1 hji
    ·have:=(List.all_eq_true.1 hdom) j h1
     simp only [Bool.or_eq_true,beq_iff_eq,List.contains_eq_mem,decide_eq_true_eq] at this
     rcases this with h2 | h2
     ·exact h2
     ·exact absurd (I.all i (by simp)) (I.first ok h2)
   rcases hjf with rfl | rfl
   ·exact ap1_swap hf hRf hordf hokf b hpre hin ok hpd I s
   ·exact ap1_swap hg hRg hordg hokg c hpre hin ok hpd I s
theorem ap_fork2 [Lets B] {i f:Nat} {ordf Rf:List Nat} (hdom:(R.all fun j=>j == f||(anc ops ops.size j).contains i)=true) (hf:R.contains f=true) (hRf:R.erase f=Rf) (hordf:ordf=(ord.takeWhile fun q=>!(q == i))++f::i::Rf) (hokf:okOrd n ops ordf=true)
  (a:Ap1 P B kd n ops ord i R Pd K e z L x) (b:Ap1 P B kd n ops ordf f (i::Rf) Pd K e z L x):Ap P B kd n ops ord (i::R) Pd K e z L x:=by
 subst hRf;exact ap_fork hdom hf hordf hokf a b
end
end Go.PB
namespace Go.Proofs.Ytmkkanmkjfnpdaa
open Go Go.PB
attribute [local irreducible] Mo Bin Eql Tr Wo Ap Wle
section
variable {B:Hand} [Lets B] {L:List HProp} {x:B.X}
def isFn (v:Value):Prop:=∃ f u w,v=.func f u w
theorem wrong1_nil:Tr Try.prog B 71 [.nilFunc] L x fun v L' x'=>v=.bool true∧L'=L∧x'=x:=by
 refine tr_of_body Try.func71 rfl Try.ntmps71 (by simp) fun um Q _ hQ=>?_
 simp only [argE,Nat.zero_add,Nat.reduceAdd]
 repeat (first | (apply wo_po;apply mo_bin;exact rfl;exact rfl;apply bin_eq;apply eql_nilfunc_nil;exact trivial) | refine we_seq ?_ | (refine wR ?_;try simp only [oS]) | refine wo_nil ?_ | refine wM ?_ | refine wA ?_ | refine we_ret ?_)
 (first | refine or1 Try.func71 Try.results71 hQ rfl ?_ | refine on1 Try.func71 Try.results71 hQ rfl ?_)
 exact ⟨rfl,rfl,rfl⟩
theorem wrong1_fn {v:Value} (hv:isFn v):Tr Try.prog B 71 [v] L x fun v L' x'=>v=.bool false∧L'=L∧x'=x:=by
 obtain ⟨f,u,w,rfl⟩:=hv
 refine tr_of_body Try.func71 rfl Try.ntmps71 (by simp) fun um Q _ hQ=>?_
 simp only [argE,Nat.zero_add,Nat.reduceAdd]
 repeat (first | (apply wo_po;apply mo_bin;exact rfl;exact rfl;apply bin_eq;apply eql_func_nil;exact trivial) | refine we_seq ?_ | (refine wR ?_;try simp only [oS]) | refine wo_nil ?_ | refine wM ?_ | refine wA ?_ | refine we_ret ?_)
 (first | refine or1 Try.func71 Try.results71 hQ rfl ?_ | refine on1 Try.func71 Try.results71 hQ rfl ?_)
 exact ⟨rfl,rfl,rfl⟩
def RdsO (L:List HProp) (a:Option Addr) (n:Nat) (vs:List Value):Prop:=n=vs.length∧(n=0∨∃ b o,a=some ⟨b,o,none⟩∧Rds L b o vs)
theorem RdsO.there {L:List HProp} {c:HProp} {a:Option Addr} {n:Nat} {vs:List Value} (h:RdsO L a n vs):RdsO (c::L) a n vs :=
 ⟨h.1,h.2.imp id fun ⟨b,o,e,r⟩=>⟨b,o,e,fun i v hi=>.there (r i v hi)⟩⟩
theorem RdsO.rds {L:List HProp} {a:Option Addr} {n:Nat} {vs:List Value} (h:RdsO L a n vs) (hn:0<n):∃ b o,a=some ⟨b,o,none⟩∧Rds L b o vs:=by
 rcases h.2 with h0 | h
 ·omega
 ·exact h
def idxInv (tv fv:Value) (vs:List Value) (L:List HProp) (x:B.X):PB.Inv Nat B.X where
 e:=fun i=>[(0,tv),(1,fv),(7,.int .i64 (vs.length:Nat)),(8,.int .i64 (i:Nat))]
 L:=fun _=>L
 x:=fun _=>x
 ok:=fun i=>i≤vs.length∧∀ k v,k<i→vs[k]?=some v→isFn v
theorem index_tr {a:Option Addr} {n c:Nat} {vs:List Value} (hvs:∀ v∈vs,v=.nilFunc∨isFn v) (hr:RdsO L a n vs) (hb:n<1000000) :
  Tr Try.prog B 97 [.slice a n c,.func (.func 71) #[] #[]] L x fun v L' x'=>(∃ j:Int,v=.int .i64 j∧((j<0∧∀ v∈vs,isFn v)∨(0≤j∧.nilFunc∈vs)))∧L'=L∧x'=x:=by
 obtain ⟨rfl,hr⟩:=hr
 refine tr_of_body Try.func97 rfl Try.ntmps97 (by simp) fun um Q _ hQ=>?_
 simp only [argE,Nat.zero_add,Nat.reduceAdd]
 repeat (first | refine we_seq ?_ | (refine wR ?_;try simp only [oS]) | refine wo_nil ?_ | refine wM ?_ | refine wA ?_ | refine wE ?_ | refine we_block ?_)
 refine we_loopN (idxInv (.slice a vs.length c) (.func (.func 71) #[] #[]) vs L x) (fun i=>vs.length-i) 0 ⟨by omega,fun k v h=>by omega⟩ ⟨rfl,rfl,rfl,rfl,trivial⟩ .refl rfl ?_
 rintro i ⟨hi,hbe⟩
 simp only [idxInv]
 by_cases hlt:i<vs.length
 ·obtain ⟨b,o,rfl,hrd⟩:∃ b o,a=some ⟨b,o,none⟩∧Rds L b o vs:=by
   rcases hr with h | h
   ·omega
   ·exact h
  have hri:=hrd i vs[i] (List.getElem?_eq_getElem hlt)
  repeat (first | (apply wo_po;apply mo_index1;exact rfl;exact rfl;omega;exact gY) | (apply wo_po;apply mo_load;exact rfl;exact hri;exact trivial) | refine wlssT ?_ | refine we_seq ?_ | (refine wR ?_;try simp only [oS]) | refine wo_nil ?_ | refine wM ?_ | refine wA ?_ | refine wT ?_ | refine we_skip ?_ | refine we_block ?_)
  rcases hvs vs[i] (List.getElem_mem hlt) with hv | hv
  ·rw [hv]
   refine wo_callv (args:=[_]) (first:=[]) (cap:=[]) rfl rfl (.cons rfl .nil) trivial (R:=fun v L' x'=>v=.bool true∧L'=L∧x'=x) wrong1_nil ?_
   rintro v L' x' ⟨rfl,rfl,rfl⟩
   repeat (first | refine we_seq ?_ | (refine wR ?_;try simp only [oS]) | refine wo_nil ?_ | refine wM ?_ | refine wA ?_ | refine wT ?_ | refine we_ret ?_)
   (first | refine or1 Try.func97 Try.results97 hQ rfl ?_ | refine on1 Try.func97 Try.results97 hQ rfl ?_)
   exact ⟨⟨_,rfl,.inr ⟨by omega,by rw [← hv];exact List.getElem_mem hlt⟩⟩,rfl,rfl⟩
  ·refine wo_callv (args:=[_]) (first:=[]) (cap:=[]) rfl rfl (.cons rfl .nil) trivial (R:=fun v L' x'=>v=.bool false∧L'=L∧x'=x) (wrong1_fn hv) ?_
   rintro v L' x' ⟨rfl,rfl,rfl⟩
   repeat (first | (refine wR ?_;try simp only [oS]) | refine wo_nil ?_ | refine wM ?_ | refine wadd ?_ | refine wF ?_ | refine we_skip ?_)
   refine at_round (I:=idxInv (.slice (some ⟨b,o,none⟩) vs.length c) (.func (.func 71) #[] #[]) vs _ x') (R:=fun j=>vs.length-j<vs.length-i) (i+1) (by omega) ⟨by omega,fun k v hk hv'=>?_⟩ ⟨rfl,rfl,rfl,rfl,trivial⟩ .refl rfl
   by_cases e:k=i
   ·subst e;rw [List.getElem?_eq_getElem hlt] at hv';cases hv';exact hv
   ·exact hbe k v (by omega) hv'
 ·repeat (first | refine wlssF ?_ | refine we_seq ?_ | (refine wR ?_;try simp only [oS]) | refine wo_nil ?_ | refine wA ?_ | refine wF ?_ | refine we_ret ?_ | refine we_exit ?_)
  (first | refine or1 Try.func97 Try.results97 hQ rfl ?_ | refine on1 Try.func97 Try.results97 hQ rfl ?_)
  refine ⟨⟨_,rfl,.inl ⟨by omega,fun v hv=>?_⟩⟩,rfl,rfl⟩
  obtain ⟨k,hk⟩:=List.mem_iff_getElem?.1 hv
  exact hbe k v (by have:=(List.getElem?_eq_some_iff.1 hk).1;omega) hk
theorem contains_tr {a:Option Addr} {n c:Nat} {vs:List Value} (hvs:∀ v∈vs,v=.nilFunc∨isFn v) (hr:RdsO L a n vs) (hb:n<1000000) :
  Tr Try.prog B 70 [.slice a n c,.func (.func 71) #[] #[]] L x fun v L' x'=>(∃ q,v=.bool q∧(if q=true then .nilFunc∈vs else ∀ v∈vs,isFn v))∧L'=L∧x'=x:=by
 refine tr_of_body Try.func70 rfl Try.ntmps70 (by simp) fun um Q _ hQ=>?_
 simp only [argE,Nat.zero_add,Nat.reduceAdd]
 repeat (first | refine we_seq ?_ | (refine wR ?_;try simp only [oS]) | refine wo_nil ?_ | refine wM ?_ | refine wA ?_)
 refine wo_call (.cons rfl (.cons rfl .nil)) trivial (index_tr hvs hr hb) ?_
 rintro v L' x' ⟨⟨j,rfl,hj⟩,rfl,rfl⟩
 rcases hj with ⟨h1,h2⟩ | ⟨h1,h2⟩
 ·repeat (first | refine wgeqF ?_ | refine wo_nil ?_ | refine wA ?_ | refine we_ret ?_)
  (first | refine or1 Try.func70 Try.results70 hQ rfl ?_ | refine on1 Try.func70 Try.results70 hQ rfl ?_)
  exact ⟨⟨false,rfl,h2⟩,rfl,rfl⟩
 ·repeat (first | refine wgeqT ?_ | refine wo_nil ?_ | refine wA ?_ | refine we_ret ?_)
  (first | refine or1 Try.func70 Try.results70 hQ rfl ?_ | refine on1 Try.func70 Try.results70 hQ rfl ?_)
  exact ⟨⟨true,rfl,h2⟩,rfl,rfl⟩
theorem wrong_tr {a:Option Addr} {n c:Nat} {vs:List Value} (hvs:∀ v∈vs,v=.nilFunc∨isFn v) (hr:RdsO L a n vs) (hb:n<1000000) :
  Tr Try.prog B 52 [.slice a n c] L x fun v L' x'=>(∃ k:Int,v=.int .i64 k∧(((k=1∧.nilFunc∈vs)∨((∀ v∈vs,isFn v)∧k=if vs.length=0 then 2 else if 16<vs.length then 4 else 0))))∧L'=L∧x'=x:=by
 have hn:=hr.1
 refine tr_of_body Try.func52 rfl Try.ntmps52 (by simp) fun um Q _ hQ=>?_
 simp only [argE,Nat.zero_add,Nat.reduceAdd]
 repeat (first | refine we_seq ?_ | (refine wR ?_;try simp only [oS]) | refine wo_nil ?_ | refine wM ?_ | refine wA ?_ | refine we_block ?_)
 refine wo_call (.cons rfl (.cons rfl .nil)) trivial (contains_tr hvs hr hb) ?_
 rintro v L' x' ⟨⟨q,rfl,hq⟩,rfl,rfl⟩
 cases q with
 | true =>
  repeat (first | refine we_seq ?_ | (refine wR ?_;try simp only [oS]) | refine wo_nil ?_ | refine wA ?_ | refine wT ?_ | refine we_ret ?_)
  (first | refine or1 Try.func52 Try.results52 hQ rfl ?_ | refine on1 Try.func52 Try.results52 hQ rfl ?_)
  exact ⟨⟨_,rfl,.inl ⟨rfl,hq⟩⟩,rfl,rfl⟩
 | false =>
  by_cases h0:n=0
  ·repeat (first | refine weqlT ?_ | refine we_seq ?_ | (refine wR ?_;try simp only [oS]) | refine wo_nil ?_ | refine wM ?_ | refine wA ?_ | refine wE ?_ | refine wT ?_ | refine wF ?_ | refine we_ret ?_)
   (first | refine or1 Try.func52 Try.results52 hQ rfl ?_ | refine on1 Try.func52 Try.results52 hQ rfl ?_)
   exact ⟨⟨_,rfl,.inr ⟨hq,by rw [if_pos (by omega)]⟩⟩,rfl,rfl⟩
  by_cases h1:16<n
  ·repeat (first | refine wgtrT ?_ | refine weqlF ?_ | refine we_seq ?_ | (refine wR ?_;try simp only [oS]) | refine wo_nil ?_ | refine wM ?_ | refine wA ?_ | refine wE ?_ | refine wT ?_ | refine wF ?_ | refine we_ret ?_)
   (first | refine or1 Try.func52 Try.results52 hQ rfl ?_ | refine on1 Try.func52 Try.results52 hQ rfl ?_)
   exact ⟨⟨_,rfl,.inr ⟨hq,by rw [if_neg (by omega),if_pos (by omega)]⟩⟩,rfl,rfl⟩
  ·repeat (first | refine wgtrF ?_ | refine weqlF ?_ | refine we_seq ?_ | (refine wR ?_;try simp only [oS]) | refine wo_nil ?_ | refine wM ?_ | refine wA ?_ | refine wE ?_ | refine wF ?_ | refine we_ret ?_ | refine we_skip ?_)
   (first | refine or1 Try.func52 Try.results52 hQ rfl ?_ | refine on1 Try.func52 Try.results52 hQ rfl ?_)
   exact ⟨⟨_,rfl,.inr ⟨hq,by rw [if_neg (by omega),if_neg (by omega)]⟩⟩,rfl,rfl⟩
end
end Go.Proofs.Ytmkkanmkjfnpdaa
namespace Go.Proofs.Ytmkkanmkjfnpdaa
open Go Go.PB
attribute [local irreducible] Mo Bin Eql Tr Wo Ap Wle
attribute [local instance] Pass.of_no
section
structure Thr (g:Game) where
 fv:Value
 ini:g.σ→g.σ × g.θ
 M:HProp
section
variable {g:Game}
def startF:List (Thr g)→g.σ→g.σ × List g.θ
 | [],s=>(s,[])
 | t::ts,s=>((startF ts (t.ini s).1).1,(t.ini s).2::(startF ts (t.ini s).1).2)
theorem startF_snoc {t:Thr g}:∀ (l:List (Thr g)) (s:g.σ),startF (l++[t]) s=((t.ini (startF l s).1).1,(startF l s).2++[(t.ini (startF l s).1).2])
 | [],s=>rfl
 | a::l,s=>by simp only [List.cons_append,startF,startF_snoc l]
theorem startF_len:∀ (l:List (Thr g)) (s:g.σ),(startF l s).2.length=l.length
 | [],s=>rfl
 | a::l,s=>by simp [startF,startF_len l]
def ordF (p:PS g) (order:List Int):PS g:=order.foldl (fun p k=>(takeF p k).1) p
def roundF (p:PS g):Nat→PS g × Bool
 | 0=>(p,false)
 | k+1=>((takeF (roundF p k).1 k).1,(takeF (roundF p k).1 k).2||(roundF p k).2)
def restF:Nat→PS g→PS g
 | 0,p=>p
 | n+1,p=>if (roundF p p.qs.length).2=true then restF n (roundF p p.qs.length).1 else (roundF p p.qs.length).1
def playF (ts:List (Thr g)) (s:g.σ) (order:List Int):PS g:=restF 16385 (ordF ⟨(startF ts s).1,(startF ts s).2,[]⟩ order)
def cutC (l:List Nat):List Value:=l.map fun k=>.int .i64 (k:Nat)
theorem roundF_len (p:PS g):∀ n,(roundF p n).1.qs.length=p.qs.length
 | 0=>rfl
 | n+1=>by show (takeF _ _).1.qs.length=_;rw [takeF_len,roundF_len p n]
theorem roundF_le {p:PS g} (h:p.tr.length≤16384):∀ n,(roundF p n).1.tr.length≤16384
 | 0=>h
 | n+1=>takeF_le (roundF_le h n) _
theorem takeF_cases (p:PS g) (k:Int):takeF p k=(p,false)∨∃ (n:Nat) (q:g.θ) (m:Int × Int) (f:g.σ→g.σ × g.θ),k=n∧p.qs[n]?=some q∧g.plan q=some (m,f)∧p.tr.length≠16384∧takeF p k=(⟨(f p.s).1,p.qs.set n (f p.s).2,p.tr++[(n,m)]⟩,true):=by
 by_cases h0:k<0
 ·left;unfold takeF;rw [if_pos h0]
 obtain ⟨n,rfl⟩:∃ n:Nat,k=n:=⟨k.toNat,by omega⟩
 cases hq:p.qs[n]? with
 | none=>left;unfold takeF;rw [if_neg h0,Int.toNat_natCast,hq]
 | some q =>
  cases hpl:g.plan q with
  | none=>left;unfold takeF;rw [if_neg h0,Int.toNat_natCast,hq];simp only [hpl]
  | some mf =>
   obtain ⟨m,f⟩:=mf
   by_cases htr:p.tr.length=16384
   ·left;unfold takeF;rw [if_neg h0,Int.toNat_natCast,hq];simp only [hpl,if_pos htr]
   ·right;refine ⟨n,q,m,f,rfl,hq,hpl,htr,?_⟩
    unfold takeF;rw [if_neg h0,Int.toNat_natCast,hq];simp only [hpl,if_neg htr]
theorem takeF_grow (p:PS g) (k:Int):p.tr.length+(if (takeF p k).2=true then 1 else 0)≤(takeF p k).1.tr.length:=by
 rcases takeF_cases p k with h | ⟨n,q,m,f,_,_,_,_,h⟩ <;> rw [h] <;> simp
theorem roundF_grow (p:PS g):∀ n,p.tr.length+(if (roundF p n).2=true then 1 else 0)≤(roundF p n).1.tr.length
 | 0=>by simp [roundF]
 | n+1=>by
  have h1:=roundF_grow p n
  have h2:=takeF_grow (roundF p n).1 n
  show p.tr.length+(if ((takeF (roundF p n).1 n).2||(roundF p n).2)=true then 1 else 0)≤(takeF (roundF p n).1 n).1.tr.length
  cases h3:(takeF (roundF p n).1 n).2 <;> cases h4:(roundF p n).2 <;> simp [h3,h4] at h1 h2 ⊢ <;> omega
theorem ordF_len (order:List Int):∀ p:PS g,(ordF p order).qs.length=p.qs.length:=by
 induction order with
 | nil=>intro p;rfl
 | cons k l ih=>intro p;show (ordF (takeF p k).1 l).qs.length=_;rw [ih,takeF_len]
theorem ordF_le (order:List Int):∀ p:PS g,p.tr.length≤16384→(ordF p order).tr.length≤16384:=by
 induction order with
 | nil=>intro p h;exact h
 | cons k l ih=>intro p h;exact ih _ (takeF_le h k)
theorem ordF_snoc (p:PS g) (l:List Int) (k:Int):ordF p (l++[k])=(takeF (ordF p l) k).1:=by simp [ordF]
def cutN (g:Game) (qs:List g.θ) (j:Nat):List Nat:=(List.range j).filter fun k=>((qs[k]?).bind g.plan).isSome
theorem cutN_succ {qs:List g.θ} {j:Nat}:cutN g qs (j+1)=cutN g qs j++(if ((qs[j]?).bind g.plan).isSome=true then [j] else []):=by
 unfold cutN
 rw [List.range_succ,List.filter_append]
 congr 1
 simp only [List.filter_cons,List.filter_nil]
def shutS (ids:List SId) (qs:List g.θ) (j:Nat):List (Seat g.σ g.θ):=(List.zip ids qs).mapIdx fun k iq=>if k<j then ⟨iq.1.says,iq.1.turn,iq.1.fin,.shut iq.2⟩ else seatS iq.1 iq.2
theorem shutS_zero {ids:List SId} {qs:List g.θ}:shutS ids qs 0=seatSs ids qs:=by
 apply List.ext_getElem?
 intro k
 simp only [shutS,List.getElem?_mapIdx,seatSs,List.getElem?_zipWith,List.getElem?_zip_eq_some,List.zip,Nat.not_lt_zero,if_false]
 cases ids[k]? <;> cases qs[k]? <;> rfl
theorem shutS_len {ids:List SId} {qs:List g.θ} {j:Nat} (h:ids.length=qs.length):(shutS ids qs j).length=ids.length:=by simp [shutS];omega
theorem shutS_get {ids:List SId} {qs:List g.θ} {j k:Nat} {i:SId} {q:g.θ} (hi:ids[k]?=some i) (hq:qs[k]?=some q):(shutS ids qs j)[k]?=some (if k<j then ⟨i.says,i.turn,i.fin,.shut q⟩ else seatS i q):=by
 simp [shutS,List.getElem?_mapIdx,List.zip,List.getElem?_zipWith,hi,hq]
theorem shutS_succ {ids:List SId} {qs:List g.θ} {j:Nat} {i:SId} {q:g.θ} (hi:ids[j]?=some i) (hq:qs[j]?=some q):(shutS ids qs j).set j ⟨i.says,i.turn,i.fin,.shut q⟩=shutS ids qs (j+1):=by
 apply List.ext_getElem?
 intro k
 have hj:j<(shutS ids qs j).length:=(List.getElem?_eq_some_iff.1 (shutS_get (j:=j) hi hq)).1
 rw [List.getElem?_set]
 by_cases e:j=k
 ·subst e
  rw [if_pos rfl,if_pos hj,shutS_get hi hq,if_pos (by omega)]
 ·rw [if_neg e]
  simp only [shutS,List.getElem?_mapIdx]
  cases (ids.zip qs)[k]? with
  | none=>rfl
  | some iq =>
   simp only [Option.map_some,Option.some.injEq]
   by_cases h:k<j
   ·rw [if_pos h,if_pos (by omega)]
   ·rw [if_neg h,if_neg (by omega)]
theorem shutS_all {ids:List SId} {qs:List g.θ} (h:ids.length=qs.length):(shutS ids qs ids.length).map Seat.fins=qs.map g.Fin:=by
 apply List.ext_getElem?
 intro k
 by_cases hk:k<ids.length
 ·have hi:=List.getElem?_eq_getElem hk
  have hq:=List.getElem?_eq_getElem (show k<qs.length by omega)
  rw [List.getElem?_map,shutS_get hi hq,if_pos hk,List.getElem?_map,hq]
  rfl
 ·rw [List.getElem?_eq_none (by simp [shutS_len h];omega),List.getElem?_eq_none (by simp;omega)]
theorem shutS_closed {ids:List SId} {qs:List g.θ} (h:ids.length=qs.length):∀ s∈shutS ids qs ids.length,s.closed:=by
 intro s hs
 obtain ⟨k,hk⟩:=List.mem_iff_getElem?.1 hs
 have hlt:=(List.getElem?_eq_some_iff.1 hk).1
 rw [shutS_len h] at hlt
 rw [shutS_get (List.getElem?_eq_getElem hlt) (List.getElem?_eq_getElem (show k<qs.length by omega)),if_pos hlt] at hk
 cases hk
 trivial
end
section
variable {g:Game} {ts:List (Thr g)} {s0:g.σ} {F:List HProp} {wg pb rb:Nat} {ov tv:Value}
theorem star_head {c:HProp} {M L:List HProp} {h:Hp} (s:Star (all (c::M)::L) h):Star (c::all M::L) h :=
 star_map (star_open s) (fun _ a=>a) (fun _ st=>star_shut (M:=M) st)
def startInvP (ts:List (Thr g)) (s0:g.σ) (wg pb rb:Nat) (ov tv:Value) (F:List HProp):PB.Inv (Nat × g.σ × List g.θ × List SId × Value) MX where
 e:=fun i=>[(0,ov),(1,tv),(4,.pointer (some ⟨rb,0,none⟩)),(7,.pointer (some ⟨wg,0,none⟩)),(8,.pointer (some ⟨pb,0,none⟩)),(28,tv),(29,.int .i64 (ts.length:Nat)),(30,.int .i64 (i.1:Nat))]
 L:=fun i=>g.U i.2.1::arr pb 0 [i.2.2.2.2,.slice none 0 0,.slice none 0 0]::vec 1 i.2.2.2.2 (ptrs i.2.2.2.1)::all (seatCs g i.2.2.2.1 i.2.2.1)::all ((ts.drop i.1).map Thr.M)::arr rb 0 [.slice none 0 0,.slice none 0 0]::F
 x:=fun i=>gx g wg (seatSs i.2.2.2.1 i.2.2.1) (some i.2.1) 16384 (seatSs i.2.2.2.1 i.2.2.1).length
 ok:=fun i=>i.1≤ts.length∧i.2.2.2.1.length=i.1∧startF (ts.take i.1) s0=(i.2.1,i.2.2.1)
def seatMid (wg pb rb j n:Nat) (ov tv fv:Value) (x:MX) (L:List HProp):PB.Inv (Nat × Nat × Nat × Nat) MX where
 e:=fun i=>[(0,ov),(1,tv),(4,.pointer (some ⟨rb,0,none⟩)),(7,.pointer (some ⟨wg,0,none⟩)),(8,.pointer (some ⟨pb,0,none⟩)),(28,tv),(29,.int .i64 (n:Nat)),(30,.int .i64 (j:Nat)),(10,fv),(11,.pointer (some ⟨i.1,0,none⟩))]
 L:=fun i=>arr i.1 0 [.chan (some i.2.2.1),.chan (some i.2.2.2),.chan (some i.2.1),.int .u8 0,.int .i64 0,.bool false]::ob i.2.1 newChan::ob i.2.2.1 newChan::ob i.2.2.2 newChan::L
 x:=fun _=>x
 ok:=fun _=>True
def ordInv (p0:PS g) (order:List Int) (ids:List SId) (wg pb rb:Nat) (ov:Value) (ss:Value) (F:List HProp):PB.Inv (Nat × Value) MX where
 e:=fun i=>[(4,.pointer (some ⟨rb,0,none⟩)),(7,.pointer (some ⟨wg,0,none⟩)),(8,.pointer (some ⟨pb,0,none⟩)),(49,ov),(50,.int .i64 (order.length:Nat)),(51,.int .i64 (i.1:Nat))]
 L:=fun i=>playL g pb ss i.2 (.slice none 0 0) ids (ordF p0 (order.take i.1)) F
 x:=fun i=>playX g wg ids (ordF p0 (order.take i.1))
 ok:=fun i=>i.1≤order.length
def restInv (I:PS g→Prop) (p0:PS g) (ids:List SId) (wg pb rb:Nat) (ss:Value) (F:List HProp):PB.Inv (Nat × PS g × Value × Bool) MX where
 e:=fun i=>[(4,.pointer (some ⟨rb,0,none⟩)),(7,.pointer (some ⟨wg,0,none⟩)),(8,.pointer (some ⟨pb,0,none⟩)),(14,.bool i.2.2.2)]
 L:=fun i=>playL g pb ss i.2.2.1 (.slice none 0 0) ids i.2.1 F
 x:=fun i=>playX g wg ids i.2.1
 ok:=fun i=>I i.2.1∧i.2.1.qs.length=p0.qs.length∧i.2.1.tr.length≤16384∧(if i.2.2.2=true then restF i.1 i.2.1=restF 16385 p0∧16384<i.2.1.tr.length+i.1 else i.2.1=restF 16385 p0)
def rndInvP (p:PS g) (ids:List SId) (wg pb rb:Nat) (ss:Value) (F:List HProp):PB.Inv (Nat × Value) MX where
 e:=fun i=>[(4,.pointer (some ⟨rb,0,none⟩)),(7,.pointer (some ⟨wg,0,none⟩)),(8,.pointer (some ⟨pb,0,none⟩)),(14,.bool (roundF p i.1).2),(61,.int .i64 (ids.length:Nat)),(62,.int .i64 (i.1:Nat))]
 L:=fun i=>playL g pb ss i.2 (.slice none 0 0) ids (roundF p i.1).1 F
 x:=fun i=>playX g wg ids (roundF p i.1).1
 ok:=fun i=>i.1≤ids.length
def cutInv (p:PS g) (ids:List SId) (wg pb rb:Nat) (ss tsv:Value) (F:List HProp):PB.Inv (Nat × Value) MX where
 e:=fun i=>[(4,.pointer (some ⟨rb,0,none⟩)),(7,.pointer (some ⟨wg,0,none⟩)),(8,.pointer (some ⟨pb,0,none⟩)),(72,ss),(73,.int .i64 (ids.length:Nat)),(74,.int .i64 (i.1:Nat))]
 L:=fun i=>vec 1 i.2 (cutC (cutN g p.qs i.1))::arr pb 0 [ss,tsv,i.2]::vec 1 ss (ptrs ids)::vec 3 tsv (trCP p.tr)::all (seatCs g ids p.qs)::g.U p.s::F
 x:=fun i=>gx g wg (shutS ids p.qs i.1) (some p.s) (16384-p.tr.length) ids.length
 ok:=fun i=>i.1≤ids.length
set_option maxHeartbeats 4000000 in
theorem playsR_tr {oa ta:Option Addr} {on oc tn tc:Nat} {order:List Int} (I:PS g→Prop) (hS:∀ j,j<ts.length→g.ok (startF (ts.take j) s0).1) (hI0:I ⟨(startF ts s0).1,(startF ts s0).2,[]⟩) (hIs:∀ p k,I p→I (takeF p k).1) (hIo:∀ p,I p→p.tr.length<16384→g.ok p.s) (hts:∀ t∈ts,ThrR g t.ini t.fv t.M) (h1:0<ts.length) (h16:ts.length≤16) (hor:order.length≤16384)
  (hrt:RdsO F ta tn (ts.map Thr.fv)) (hro:RdsO F oa on (order.map fun k=>.int .i64 k)) :
  Tr Try.prog mT 30 [.slice oa on oc,.slice ta tn tc] (g.U s0::all (ts.map Thr.M)::F) .idle fun v L' x' =>
   ∃ tv cv,v=.tuple #[.agg #[tv,cv],.int .i64 0]∧x'=.idle∧L'=vec 3 tv (trCP (playF ts s0 order).tr)::vec 1 cv (cutC (cutN g (playF ts s0 order).qs ts.length))::g.U (playF ts s0 order).s::all ((playF ts s0 order).qs.map g.Fin)::F:=by
 refine Tr.post (R:=fun v L' x'=>∃ tv cv,v=.tuple #[.agg #[tv,cv],.int .i64 0]∧x'=MX.idle∧∀ h,Star L' h→Star (vec 3 tv (trCP (playF ts s0 order).tr)::vec 1 cv (cutC (cutN g (playF ts s0 order).qs ts.length))::g.U (playF ts s0 order).s::all ((playF ts s0 order).qs.map g.Fin)::F) h) ?_
  (by rintro v L' x' ⟨tv,cv,rfl,rfl,h2⟩;exact ⟨_,⟨tv,cv,rfl,rfl,rfl⟩,h2⟩)
 have hfn:∀ v∈ts.map Thr.fv,isFn v:=by
  intro v hv
  obtain ⟨t,ht,rfl⟩:=List.mem_map.1 hv
  obtain ⟨f,first,cap,hc⟩:=(hts t ht).fn
  revert hc
  cases t.fv with
  | func a b c=>exact fun _=>⟨a,b,c,rfl⟩
  | _=>intro hc;cases hc
 have hIord:∀ (l:List Int) (p:PS g),I p→I (ordF p l):=by
  intro l
  induction l with
  | nil=>exact fun p h=>h
  | cons k l ih=>exact fun p h=>ih _ (hIs p k h)
 have hIrnd:∀ (p:PS g) k,I p→I (roundF p k).1:=by
  intro p k h
  induction k with
  | zero=>exact h
  | succ k ih=>exact hIs _ _ ih
 have htn:tn=ts.length:=by have:=hrt.1;simpa using this
 have hon:on=order.length:=by have:=hro.1;simpa using this
 subst htn
 subst hon
 refine tr_of_body Try.func30 rfl Try.ntmps30 (by simp) fun um Q _ hQ=>?_
 simp only [argE,Nat.zero_add,Nat.reduceAdd]
 repeat (first | (apply wo_mo;apply mo_alloc;exact trivial) | refine we_seq ?_ | (refine wR ?_;try simp only [oS]))
 rintro v' L' ⟨rb,rfl,rfl⟩
 repeat (first | refine we_seq ?_ | (refine wR ?_;try simp only [oS]) | refine wo_nil ?_ | refine wM ?_ | refine wA ?_)
 refine wo_call (.cons rfl .nil) trivial (wrong_tr (fun v hv=>.inr (hfn v hv)) hrt.there.there.there (by omega)) ?_
 rintro v' L' x' ⟨⟨k,rfl,hk⟩,rfl,rfl⟩
 obtain rfl:k=0:=by
  rcases hk with ⟨_,h⟩ | ⟨_,h⟩
  ·obtain ⟨_,_,_,h⟩:=hfn _ h;cases h
  ·rw [h,List.length_map,if_neg (by omega),if_neg (by omega)]
 repeat (first | (apply wo_mo;apply mo_allocS;exact trivial) | refine wgtrF ?_ | refine wneqF ?_ | refine we_seq ?_ | (refine wR ?_;try simp only [oS]) | refine wo_nil ?_ | refine wM ?_ | refine wA ?_ | refine wE ?_ | refine wF ?_ | refine we_skip ?_)
 rintro v' L' ⟨wg,rfl,rfl⟩
 repeat (first | refine we_seq ?_ | (refine wR ?_;try simp only [oS]) | refine wo_nil ?_)
 refine wo_begin g s0 (wg:=wg) (R:=arr rb 0 [.slice none 0 0,.slice none 0 0]::g.U s0::all (ts.map Thr.M)::F) (fun h st=>st) ?_
 repeat (first | (apply wo_mo;apply mo_alloc;exact trivial))
 rintro v' L' ⟨pb,rfl,rfl⟩
 repeat (first | refine we_seq ?_ | (refine wR ?_;try simp only [oS]) | refine wo_nil ?_ | refine wM ?_ | refine wE ?_ | refine we_block ?_)
 refine we_star (vec 1 (.slice none 0 0) (ptrs [])::all (seatCs g [] [])::arr pb 0 [.slice none 0 0,.slice none 0 0,.slice none 0 0]::shpC wg 132 2::arr rb 0 [.slice none 0 0,.slice none 0 0]::g.U s0::all (ts.map Thr.M)::F) (fun h st=>vec_nil (star_shut (M:=[]) st)) ?_
 refine we_loopN (startInvP ts s0 wg pb rb (.slice oa order.length oc) (.slice ta ts.length tc) (shpC wg 132 2::F)) (fun i=>ts.length-i.1) (0,s0,[],[],.slice none 0 0) ⟨by omega,rfl,rfl⟩ ⟨rfl,rfl,rfl,rfl,rfl,rfl,rfl,rfl,trivial⟩ (.take (.there (.there (.there (.there (.there .here))))) (.take (.there (.there .here)) (.take .here (.take .here (.take (.there (.there .here)) (.take (.there .here) (.take .here .refl))))))) rfl ?_
 rintro ⟨j,s,qs,ids,ss⟩ ⟨hj,hids,hst⟩
 simp only at hj hids hst
 have hqs:qs.length=j:=by have:=startF_len (ts.take j) s0;rw [hst] at this;simpa [Nat.min_eq_left hj] using this
 have hsl:(seatSs ids qs).length=ids.length:=by simp [seatSs];omega
 simp only [startInvP]
 by_cases hlt:j<ts.length
 ·obtain ⟨tb,to,rfl,hrd⟩:=hrt.rds (by omega)
  have ht:ts[j]?=some ts[j]:=List.getElem?_eq_getElem hlt
  have hrj:=hrd j (ts[j].fv) (by simp [ht])
  have hTO:=hts _ (List.getElem_mem hlt)
  have hdrop:ts.drop j=ts[j]::ts.drop (j+1):=List.drop_eq_getElem_cons hlt
  rw [hdrop]
  refine we_star (g.U s::arr pb 0 [ss,.slice none 0 0,.slice none 0 0]::vec 1 ss (ptrs ids)::all (seatCs g ids qs)::ts[j].M::all ((ts.drop (j+1)).map Thr.M)::arr rb 0 [.slice none 0 0,.slice none 0 0]::shpC wg 132 2::F) (fun h st=>Ent.star (.take (.there (.there .here)) (.take (.there (.there .here)) (.take (.there (.there .here)) (.take (.there (.there .here)) (.take .here (.take .here .refl)))))) (star_head (((.there (.there (.there (.there .here)))):Has _ (all ((ts[j]::ts.drop (j+1)).map Thr.M)) _).star st))) ?_
  repeat (first | (apply wo_po;apply mo_index1;exact rfl;exact rfl;omega;exact gY) | (apply wo_po;apply mo_load;exact rfl;exact .there (.there (.there (.there (.there (.there (.there (.there hrj)))))));exact trivial) | refine wlssT ?_ | refine we_seq ?_ | (refine wR ?_;try simp only [oS]) | refine wo_nil ?_ | refine wA ?_ | refine wT ?_ | refine we_skip ?_ | refine we_block ?_)
  let MI:=seatMid wg pb rb j ts.length (.slice oa order.length oc) (.slice (some ⟨tb,to,none⟩) ts.length tc) ts[j].fv (gx g wg (seatSs ids qs) (some s) 16384 (seatSs ids qs).length) (g.U s::arr pb 0 [ss,.slice none 0 0,.slice none 0 0]::vec 1 ss (ptrs ids)::all (seatCs g ids qs)::ts[j].M::all ((ts.drop (j+1)).map Thr.M)::arr rb 0 [.slice none 0 0,.slice none 0 0]::shpC wg 132 2::F)
  refine we_join MI ?_ ?_
  ·refine we_draw (List.range' 0 6) (by kernel_rfl) ?_
   refine ap_fork3 (f:=1) (g:=2) (ordf:=[1,0,2,3,4,5]) (ordg:=[2,0,1,3,4,5]) (Rf:=[2,3,4,5]) (Rg:=[1,3,4,5]) (by kernel_rfl) (by kernel_rfl) (by kernel_rfl) (by kernel_rfl) (by kernel_rfl) (by kernel_rfl) (by kernel_rfl) (by kernel_rfl) (by kernel_rfl) ?_ ?_ ?_
   ·refine ap1_mo (Pd':=[]) rfl rfl rfl trivial (mo_makeChan (m:=0) (k:=.i64) rfl (by omega) (by omega)) (fun v L' _ p hp=>by cases hp) ?_
    rintro v' L' ⟨ct,rfl,rfl⟩
    refine ap_fork2 (f:=2) (ordf:=[0,2,1,3,4,5]) (Rf:=[3,4,5]) (by kernel_rfl) (by kernel_rfl) (by kernel_rfl) (by kernel_rfl) (by kernel_rfl) ?_ ?_
    ·refine ap1_mo (Pd':=[]) rfl rfl rfl trivial (mo_makeChan (m:=0) (k:=.i64) rfl (by omega) (by omega)) (fun v L' _ p hp=>by cases hp) ?_
     rintro v' L' ⟨ce,rfl,rfl⟩
     refine ap_loud rfl rfl rfl rfl rfl trivial (mo_makeChan (m:=0) (k:=.i64) rfl (by omega) (by omega)) ?_
     rintro v' L' ⟨cs,rfl,rfl⟩
     repeat (first | (apply ap_pure;exact rfl;exact rfl;exact trivial;intro L;apply mo_build (pv:=[(0,_),(1,_),(2,_)]);exact rfl;exact .cons rfl (.cons rfl (.cons rfl .nil));exact rfl))
     refine ap_loud rfl rfl rfl rfl rfl trivial (mo_box rfl) ?_
     rintro v' L' ⟨sb,rfl,rfl⟩
     repeat (first | refine aA ?_ | refine ap_end ?_)
     refine at_mid (B:=mT) (I:=MI) (sb,cs,ct,ce) trivial ?_ ?_ rfl
     exact ⟨rfl,rfl,rfl,rfl,rfl,rfl,rfl,rfl,rfl,rfl,trivial⟩
     repeat (first | exact Ent.refl | (apply Ent.take;(repeat (first | exact Has.here | apply Has.there))) | apply Ent.drop)
    ·refine ap1_mo (Pd':=[]) rfl rfl rfl trivial (mo_makeChan (m:=0) (k:=.i64) rfl (by omega) (by omega)) (fun v L' _ p hp=>by cases hp) ?_
     rintro v' L' ⟨cs,rfl,rfl⟩
     refine ap_loud rfl rfl rfl rfl rfl trivial (mo_makeChan (m:=0) (k:=.i64) rfl (by omega) (by omega)) ?_
     rintro v' L' ⟨ce,rfl,rfl⟩
     repeat (first | (apply ap_pure;exact rfl;exact rfl;exact trivial;intro L;apply mo_build (pv:=[(0,_),(1,_),(2,_)]);exact rfl;exact .cons rfl (.cons rfl (.cons rfl .nil));exact rfl))
     refine ap_loud rfl rfl rfl rfl rfl trivial (mo_box rfl) ?_
     rintro v' L' ⟨sb,rfl,rfl⟩
     repeat (first | refine aA ?_ | refine ap_end ?_)
     refine at_mid (B:=mT) (I:=MI) (sb,cs,ct,ce) trivial ?_ ?_ rfl
     exact ⟨rfl,rfl,rfl,rfl,rfl,rfl,rfl,rfl,rfl,rfl,trivial⟩
     repeat (first | exact Ent.refl | (apply Ent.take;(repeat (first | exact Has.here | apply Has.there))) | apply Ent.drop)
   ·refine ap1_mo (Pd':=[]) rfl rfl rfl trivial (mo_makeChan (m:=0) (k:=.i64) rfl (by omega) (by omega)) (fun v L' _ p hp=>by cases hp) ?_
    rintro v' L' ⟨ce,rfl,rfl⟩
    refine ap_fork2 (f:=2) (ordf:=[1,2,0,3,4,5]) (Rf:=[3,4,5]) (by kernel_rfl) (by kernel_rfl) (by kernel_rfl) (by kernel_rfl) (by kernel_rfl) ?_ ?_
    ·refine ap1_mo (Pd':=[]) rfl rfl rfl trivial (mo_makeChan (m:=0) (k:=.i64) rfl (by omega) (by omega)) (fun v L' _ p hp=>by cases hp) ?_
     rintro v' L' ⟨ct,rfl,rfl⟩
     refine ap_loud rfl rfl rfl rfl rfl trivial (mo_makeChan (m:=0) (k:=.i64) rfl (by omega) (by omega)) ?_
     rintro v' L' ⟨cs,rfl,rfl⟩
     repeat (first | (apply ap_pure;exact rfl;exact rfl;exact trivial;intro L;apply mo_build (pv:=[(0,_),(1,_),(2,_)]);exact rfl;exact .cons rfl (.cons rfl (.cons rfl .nil));exact rfl))
     refine ap_loud rfl rfl rfl rfl rfl trivial (mo_box rfl) ?_
     rintro v' L' ⟨sb,rfl,rfl⟩
     repeat (first | refine aA ?_ | refine ap_end ?_)
     refine at_mid (B:=mT) (I:=MI) (sb,cs,ct,ce) trivial ?_ ?_ rfl
     exact ⟨rfl,rfl,rfl,rfl,rfl,rfl,rfl,rfl,rfl,rfl,trivial⟩
     repeat (first | exact Ent.refl | (apply Ent.take;(repeat (first | exact Has.here | apply Has.there))) | apply Ent.drop)
    ·refine ap1_mo (Pd':=[]) rfl rfl rfl trivial (mo_makeChan (m:=0) (k:=.i64) rfl (by omega) (by omega)) (fun v L' _ p hp=>by cases hp) ?_
     rintro v' L' ⟨cs,rfl,rfl⟩
     refine ap_loud rfl rfl rfl rfl rfl trivial (mo_makeChan (m:=0) (k:=.i64) rfl (by omega) (by omega)) ?_
     rintro v' L' ⟨ct,rfl,rfl⟩
     repeat (first | (apply ap_pure;exact rfl;exact rfl;exact trivial;intro L;apply mo_build (pv:=[(0,_),(1,_),(2,_)]);exact rfl;exact .cons rfl (.cons rfl (.cons rfl .nil));exact rfl))
     refine ap_loud rfl rfl rfl rfl rfl trivial (mo_box rfl) ?_
     rintro v' L' ⟨sb,rfl,rfl⟩
     repeat (first | refine aA ?_ | refine ap_end ?_)
     refine at_mid (B:=mT) (I:=MI) (sb,cs,ct,ce) trivial ?_ ?_ rfl
     exact ⟨rfl,rfl,rfl,rfl,rfl,rfl,rfl,rfl,rfl,rfl,trivial⟩
     repeat (first | exact Ent.refl | (apply Ent.take;(repeat (first | exact Has.here | apply Has.there))) | apply Ent.drop)
   ·refine ap1_mo (Pd':=[]) rfl rfl rfl trivial (mo_makeChan (m:=0) (k:=.i64) rfl (by omega) (by omega)) (fun v L' _ p hp=>by cases hp) ?_
    rintro v' L' ⟨cs,rfl,rfl⟩
    refine ap_fork2 (f:=1) (ordf:=[2,1,0,3,4,5]) (Rf:=[3,4,5]) (by kernel_rfl) (by kernel_rfl) (by kernel_rfl) (by kernel_rfl) (by kernel_rfl) ?_ ?_
    ·refine ap1_mo (Pd':=[]) rfl rfl rfl trivial (mo_makeChan (m:=0) (k:=.i64) rfl (by omega) (by omega)) (fun v L' _ p hp=>by cases hp) ?_
     rintro v' L' ⟨ct,rfl,rfl⟩
     refine ap_loud rfl rfl rfl rfl rfl trivial (mo_makeChan (m:=0) (k:=.i64) rfl (by omega) (by omega)) ?_
     rintro v' L' ⟨ce,rfl,rfl⟩
     repeat (first | (apply ap_pure;exact rfl;exact rfl;exact trivial;intro L;apply mo_build (pv:=[(0,_),(1,_),(2,_)]);exact rfl;exact .cons rfl (.cons rfl (.cons rfl .nil));exact rfl))
     refine ap_loud rfl rfl rfl rfl rfl trivial (mo_box rfl) ?_
     rintro v' L' ⟨sb,rfl,rfl⟩
     repeat (first | refine aA ?_ | refine ap_end ?_)
     refine at_mid (B:=mT) (I:=MI) (sb,cs,ct,ce) trivial ?_ ?_ rfl
     exact ⟨rfl,rfl,rfl,rfl,rfl,rfl,rfl,rfl,rfl,rfl,trivial⟩
     repeat (first | exact Ent.refl | (apply Ent.take;(repeat (first | exact Has.here | apply Has.there))) | apply Ent.drop)
    ·refine ap1_mo (Pd':=[]) rfl rfl rfl trivial (mo_makeChan (m:=0) (k:=.i64) rfl (by omega) (by omega)) (fun v L' _ p hp=>by cases hp) ?_
     rintro v' L' ⟨ce,rfl,rfl⟩
     refine ap_loud rfl rfl rfl rfl rfl trivial (mo_makeChan (m:=0) (k:=.i64) rfl (by omega) (by omega)) ?_
     rintro v' L' ⟨ct,rfl,rfl⟩
     repeat (first | (apply ap_pure;exact rfl;exact rfl;exact trivial;intro L;apply mo_build (pv:=[(0,_),(1,_),(2,_)]);exact rfl;exact .cons rfl (.cons rfl (.cons rfl .nil));exact rfl))
     refine ap_loud rfl rfl rfl rfl rfl trivial (mo_box rfl) ?_
     rintro v' L' ⟨sb,rfl,rfl⟩
     repeat (first | refine aA ?_ | refine ap_end ?_)
     refine at_mid (B:=mT) (I:=MI) (sb,cs,ct,ce) trivial ?_ ?_ rfl
     exact ⟨rfl,rfl,rfl,rfl,rfl,rfl,rfl,rfl,rfl,rfl,trivial⟩
     repeat (first | exact Ent.refl | (apply Ent.take;(repeat (first | exact Has.here | apply Has.there))) | apply Ent.drop)
  ·rintro ⟨sb,cs,ct,ce⟩ _
   simp only [MI,seatMid]
   repeat (first | refine we_seq ?_ | (refine wR ?_;try simp only [oS]) | refine wM ?_)
   refine wo_call (.cons rfl (.cons rfl (.cons rfl .nil))) trivial (Tr.ent (L':=g.U s::ts[j].M::arr sb 0 [.chan (some ct),.chan (some ce),.chan (some cs),.int .u8 0,.int .i64 0,.bool false]::ob cs newChan::ob ct newChan::ob ce newChan::arr pb 0 [ss,.slice none 0 0,.slice none 0 0]::vec 1 ss (ptrs ids)::all (seatCs g ids qs)::all ((ts.drop (j+1)).map Thr.M)::arr rb 0 [.slice none 0 0,.slice none 0 0]::shpC wg 132 2::F) (.take (.there (.there (.there (.there .here)))) (.take (.there (.there (.there (.there (.there (.there (.there .here))))))) (.take .here (.take .here (.take .here (.take .here .refl)))))) (run_tr hTO (by have:=hS j hlt;rw [hst] at this;exact this) (by rw [hsl];omega) (fun h st=>shp_of (.there (.there (.there (.there (.there .here))))) st))) ?_
   rintro v' L' x' ⟨rfl,rfl,rfl⟩
   refine wo_pure (of_has (.there (.there (.there (.there .here)))) (vec_shape (by omega))) ?_
   rintro ⟨sa,sn,sc,rfl,hsn,_⟩
   have hsn:sn=ids.length:=by simp [ptrs] at hsn;omega
   subst hsn
   repeat (first | (apply wo_mo;apply mo_buildSlice (sz:=1) (vs:=[.pointer (some ⟨sb,0,none⟩)]);exact rfl;exact .cons rfl .nil;exact rfl;(intro v hv;cases (List.mem_singleton.1 hv);exact rfl);omega;exact trivial) | (refine wR ?_;try simp only [oS]) | refine wo_nil ?_ | refine wM ?_ | refine wD ?_ | refine wL ?_)
   rintro v' L' ⟨nb,rfl,rfl⟩
   repeat (first | (apply wo_mo;apply mo_append (sz:=1) (new:=[.pointer (some ⟨sb,0,none⟩)]);exact rfl;exact rfl;exact rfl;exact rfl;exact (.there (.there (.there (.there (.there .here)))));exact rfl;exact .inr ⟨_,_,rfl,Rds.all .here⟩;(intro v hv;cases (List.mem_singleton.1 hv);exact rfl);(simp only [sliceLen];omega);exact trivial))
   rintro v' L' rfl
   refine wo_pure (of_has .here (vec_shape (by omega))) ?_
   rintro ⟨ua,un,uc,rfl,hun,_⟩
   repeat (first | refine wS ?_ | (refine wR ?_;try simp only [oS]) | refine wo_nil ?_ | refine wM ?_ | refine wD ?_ | refine wadd ?_)
   have hseats:seatCs g (ids++[⟨sb,cs,ct,ce⟩]) (qs++[(ts[j].ini s).2])=seatCs g ids qs++[seatC g ⟨sb,cs,ct,ce⟩ (ts[j].ini s).2]:=by
    unfold seatCs;rw [List.zipWith_append (by omega)];rfl
   have hseatS:seatSs (ids++[⟨sb,cs,ct,ce⟩]) (qs++[(ts[j].ini s).2])=seatSs ids qs++[seatS ⟨sb,cs,ct,ce⟩ (ts[j].ini s).2]:=by
    unfold seatSs;rw [List.zipWith_append (by omega)];rfl
   refine at_roundS (B:=mT) (I:=startInvP ts s0 wg pb rb (.slice oa order.length oc) (.slice (some ⟨tb,to,none⟩) ts.length tc) (shpC wg 132 2::F)) (R:=fun i'=>ts.length-i'.1<ts.length-j) (j+1,(ts[j].ini s).1,qs++[(ts[j].ini s).2],ids++[⟨sb,cs,ct,ce⟩],.slice ua un uc) (by show ts.length-(j+1)<ts.length-j;omega) ⟨by show j+1≤_;omega,by show (ids++[_]).length=j+1;simp;omega,?_⟩ ?_ (fun h st=>?_) ?_
   ·show startF (ts.take (j+1)) s0=_
    rw [List.take_succ_eq_append_getElem hlt,startF_snoc,hst]
   ·exact ⟨rfl,rfl,rfl,rfl,rfl,rfl,rfl,rfl,trivial⟩
   ·have s1:Star (seatR sb cs ct ce::arr sb 3 (lastC ((g.plan (ts[j].ini s).2).map (·.1)))::all (seatCs g ids qs)::g.U (ts[j].ini s).1::arr pb 0 [.slice ua un uc,.slice none 0 0,.slice none 0 0]::vec 1 (.slice ua un uc) (ptrs ids++[.pointer (some ⟨sb,0,none⟩)])::all ((ts.drop (j+1)).map Thr.M)::arr rb 0 [.slice none 0 0,.slice none 0 0]::shpC wg 132 2::F) h:=Ent.star (.take (.there (.there (.there .here))) (.take (.there (.there (.there .here))) (.take (.there (.there (.there (.there .here)))) (.take (.there (.there .here)) (.take (.there (.there .here)) (.take .here (.drop .refl))))))) st
    have s2:=star_push (c:=seatC g ⟨sb,cs,ct,ce⟩ (ts[j].ini s).2) (star_shut (M:=[_,_]) s1)
    rw [← hseats] at s2
    have e3:ptrs ids++[.pointer (some ⟨sb,0,none⟩)]=ptrs (ids++[⟨sb,cs,ct,ce⟩]):=by simp [ptrs]
    rw [e3] at s2
    exact Ent.star (.take (.there .here) (.take (.there .here) (.take (.there .here) (.take .here .refl)))) s2
   ·show gx g wg (seatSs (ids++[_]) (qs++[_])) _ _ _=_
    rw [hseatS]
    simp only [List.length_append,List.length_singleton]
    rfl
 ·obtain rfl:j=ts.length:=by omega
  rw [List.take_length] at hst
  rw [hsl]
  repeat (first | refine wlssF ?_ | refine we_seq ?_ | (refine wR ?_;try simp only [oS]) | refine wo_nil ?_ | refine wM ?_ | refine wE ?_ | refine wF ?_ | refine we_block ?_ | refine we_exit ?_)
  refine we_star (playL g pb ss (.slice none 0 0) (.slice none 0 0) ids (⟨s,qs,[]⟩:PS g) (arr rb 0 [.slice none 0 0,.slice none 0 0]::shpC wg 132 2::F)) (fun h st=>Ent.star (M:=playL g pb ss (.slice none 0 0) (.slice none 0 0) ids (⟨s,qs,[]⟩:PS g) (arr rb 0 [.slice none 0 0,.slice none 0 0]::shpC wg 132 2::F)) (.take (.there .here) (.take (.there .here) (.take (.there .here) (.take .here (.take .here (.drop .refl)))))) (vec_nil (sz:=3) st)) ?_
  refine we_loopN (ordInv (⟨s,qs,[]⟩:PS g) order ids wg pb rb (.slice oa order.length oc) ss (arr rb 0 [.slice none 0 0,.slice none 0 0]::shpC wg 132 2::F)) (fun i=>order.length-i.1) (0,.slice none 0 0) (Nat.zero_le _) ⟨rfl,rfl,rfl,rfl,rfl,rfl,trivial⟩ .refl rfl ?_
  have hI1:I (⟨s,qs,[]⟩:PS g):=by rw [hst] at hI0;exact hI0
  rintro ⟨i,tsv⟩ hi
  replace hi:i≤order.length:=hi
  have hpl:ids.length=(ordF (⟨s,qs,[]⟩:PS g) (order.take i)).qs.length:=by rw [ordF_len];show ids.length=qs.length;omega
  have hple:=ordF_le (order.take i) (⟨s,qs,[]⟩:PS g) (Nat.zero_le _)
  simp only [ordInv]
  by_cases hlt2:i<order.length
  ·obtain ⟨ob,oo,rfl,hrd⟩:=hro.rds (by omega)
   have hri:=hrd i (.int .i64 order[i]) (by rw [List.getElem?_map,List.getElem?_eq_getElem hlt2];rfl)
   repeat (first | (apply wo_po;apply mo_index1;exact rfl;exact rfl;omega;exact gY) | (apply wo_po;apply mo_load;exact rfl;exact .there (.there (.there (.there (.there (.there (.there hri))))));exact trivial) | refine wlssT ?_ | refine we_seq ?_ | (refine wR ?_;try simp only [oS]) | refine wo_nil ?_ | refine wM ?_ | refine wA ?_ | refine wT ?_ | refine we_skip ?_ | refine we_block ?_)
   refine wo_call (.cons rfl (.cons rfl .nil)) trivial (takes_tr hpl hple (hIo _ (hIord _ _ hI1))) ?_
   rintro v' L' x' ⟨ts',rfl,rfl,rfl⟩
   repeat (first | (refine wR ?_;try simp only [oS]) | refine wo_nil ?_ | refine wM ?_ | refine wadd ?_)
   have htk:(takeF (ordF (⟨s,qs,[]⟩:PS g) (order.take i)) order[i]).1=ordF (⟨s,qs,[]⟩:PS g) (order.take (i+1)):=by
    rw [List.take_succ_eq_append_getElem hlt2,ordF_snoc]
   rw [htk]
   refine at_round (B:=mT) (I:=ordInv (⟨s,qs,[]⟩:PS g) order ids wg pb rb (.slice (some ⟨ob,oo,none⟩) order.length oc) ss (arr rb 0 [.slice none 0 0,.slice none 0 0]::shpC wg 132 2::F)) (R:=fun i'=>order.length-i'.1<order.length-i) (i+1,ts') (by show order.length-(i+1)<order.length-i;omega) (show i+1≤order.length by omega) ?_ .refl rfl
   exact ⟨rfl,rfl,rfl,rfl,rfl,rfl,trivial⟩
  ·obtain rfl:i=order.length:=by omega
   rw [List.take_length] at hpl hple ⊢
   obtain ⟨p1,hp1⟩:∃ p1,ordF (⟨s,qs,[]⟩:PS g) order=p1:=⟨_,rfl⟩
   rw [hp1] at hpl hple ⊢
   repeat (first | refine wlssF ?_ | refine we_seq ?_ | (refine wR ?_;try simp only [oS]) | refine wo_nil ?_ | refine wA ?_ | refine wF ?_ | refine we_block ?_ | refine we_exit ?_)
   refine we_loopN (restInv I p1 ids wg pb rb ss (arr rb 0 [.slice none 0 0,.slice none 0 0]::shpC wg 132 2::F)) (fun i=>if i.2.2.2=true then i.1+1 else 0) (16385,p1,tsv,true) ⟨by rw [← hp1];exact hIord _ _ hI1,rfl,hple,by simp only [if_true];exact ⟨trivial,by omega⟩⟩ ⟨rfl,rfl,rfl,rfl,trivial⟩ .refl rfl ?_
   rintro ⟨n,p,tv2,more⟩ ⟨hIp,hq1,hq2,hq3⟩
   simp only at hIp hq1 hq2 hq3
   simp only [restInv]
   cases more with
   | true =>
    simp only [if_true] at hq3
    obtain ⟨n,rfl⟩:∃ m,n=m+1:=⟨n-1,by omega⟩
    have hpq:p.qs.length=ids.length:=by omega
    refine we_pure (of_has (.there (.there .here)) (vec_shape (by omega))) ?_
    rintro ⟨sa,sn,sc,rfl,hsn,_⟩
    have hsn:sn=ids.length:=by simp [ptrs] at hsn;omega
    subst hsn
    repeat (first | refine we_seq ?_ | (refine wR ?_;try simp only [oS]) | refine wo_nil ?_ | refine wM ?_ | refine wA ?_ | refine wD ?_ | refine wL ?_ | refine wE ?_ | refine wT ?_ | refine we_skip ?_ | refine we_block ?_)
    refine we_loopN (rndInvP p ids wg pb rb (.slice sa ids.length sc) (arr rb 0 [.slice none 0 0,.slice none 0 0]::shpC wg 132 2::F)) (fun i=>ids.length-i.1) (0,tv2) (Nat.zero_le _) ⟨rfl,rfl,rfl,rfl,rfl,rfl,trivial⟩ .refl rfl ?_
    rintro ⟨k,tv3⟩ hk
    replace hk:k≤ids.length:=hk
    simp only [rndInvP]
    by_cases hlt3:k<ids.length
    ·repeat (first | refine wlssT ?_ | refine we_seq ?_ | (refine wR ?_;try simp only [oS]) | refine wo_nil ?_ | refine wM ?_ | refine wA ?_ | refine wT ?_ | refine we_skip ?_ | refine we_block ?_)
     refine wo_call (.cons rfl (.cons rfl .nil)) trivial (takes_tr (by rw [roundF_len];omega) (roundF_le hq2 k) (hIo _ (hIrnd _ _ hIp))) ?_
     rintro v' L' x' ⟨ts',rfl,rfl,rfl⟩
     have hnx:roundF p (k+1)=((takeF (roundF p k).1 k).1,(takeF (roundF p k).1 k).2||(roundF p k).2):=rfl
     have hr1:(roundF p (k+1)).1=(takeF (roundF p k).1 k).1:=rfl
     obtain ⟨b,hb⟩:∃ b,(takeF (roundF p k).1 k).2=b:=⟨_,rfl⟩
     rw [hb,← hr1]
     cases b with
     | true =>
      repeat (first | (refine wR ?_;try simp only [oS]) | refine wo_nil ?_ | refine wM ?_ | refine wA ?_ | (apply wo_no;exact rfl) | refine wK ?_ | refine wadd ?_)
      refine at_round (B:=mT) (I:=rndInvP p ids wg pb rb (.slice sa ids.length sc) (arr rb 0 [.slice none 0 0,.slice none 0 0]::shpC wg 132 2::F)) (R:=fun i'=>ids.length-i'.1<ids.length-k) (k+1,ts') (by show ids.length-(k+1)<ids.length-k;omega) (show k+1≤ids.length by omega) ?_ .refl rfl
      exact ⟨rfl,rfl,rfl,by rw [hnx,hb];rfl,rfl,rfl,trivial⟩
     | false =>
      repeat (first | (refine wR ?_;try simp only [oS]) | refine wo_nil ?_ | refine wM ?_ | refine wA ?_ | refine wJ ?_ | refine wadd ?_)
      refine at_round (B:=mT) (I:=rndInvP p ids wg pb rb (.slice sa ids.length sc) (arr rb 0 [.slice none 0 0,.slice none 0 0]::shpC wg 132 2::F)) (R:=fun i'=>ids.length-i'.1<ids.length-k) (k+1,ts') (by show ids.length-(k+1)<ids.length-k;omega) (show k+1≤ids.length by omega) ?_ .refl rfl
      exact ⟨rfl,rfl,rfl,by rw [hnx,hb];rfl,rfl,rfl,trivial⟩
    ·obtain rfl:k=ids.length:=by omega
     repeat (first | refine wlssF ?_ | refine we_seq ?_ | (refine wR ?_;try simp only [oS]) | refine wo_nil ?_ | refine wF ?_ | refine we_exit ?_)
     have hg:=roundF_grow p ids.length
     have hle3:=roundF_le hq2 ids.length
     have hrest:restF (n+1) p=if (roundF p ids.length).2=true then restF n (roundF p ids.length).1 else (roundF p ids.length).1:=by
      show (if (roundF p p.qs.length).2=true then restF n (roundF p p.qs.length).1 else (roundF p p.qs.length).1)=_
      rw [hpq]
     refine at_round (B:=mT) (I:=restInv I p1 ids wg pb rb (.slice sa ids.length sc) (arr rb 0 [.slice none 0 0,.slice none 0 0]::shpC wg 132 2::F)) (R:=fun i'=>(if i'.2.2.2=true then i'.1+1 else 0)<(if true=true then (n+1)+1 else 0)) (n,(roundF p ids.length).1,tv3,(roundF p ids.length).2) ?_ ⟨hIrnd _ _ hIp,by show (roundF p ids.length).1.qs.length=_;rw [roundF_len];exact hq1,hle3,?_⟩ ?_ .refl rfl
     ·show (if (roundF p ids.length).2=true then n+1 else 0)<(if true=true then (n+1)+1 else 0)
      simp only [if_true]
      split <;> omega
     ·simp only
      rw [hrest] at hq3
      cases hb:(roundF p ids.length).2 with
      | true=>rw [hb] at hq3 hg;simp only [if_true] at hq3 hg ⊢;exact ⟨hq3.1,by omega⟩
      | false=>rw [hb] at hq3;simpa using hq3.1
     ·exact ⟨rfl,rfl,rfl,rfl,trivial⟩
   | false =>
    simp only [Bool.false_eq_true,if_false] at hq3
    have hplay:playF ts s0 order=p:=by rw [hq3,← hp1];unfold playF;rw [hst]
    rw [hplay] at hQ
    have hpq:p.qs.length=ids.length:=by omega
    refine we_pure (of_has (.there (.there .here)) (vec_shape (by omega))) ?_
    rintro ⟨sa,sn,sc,rfl,hsn,_,hnz,hy⟩
    have hsn:sn=ids.length:=by simp [ptrs] at hsn;omega
    subst hsn
    cases sa with
    | none=>have:=hnz rfl;omega
    | some ad =>
    obtain ⟨sb,so,sp⟩:=ad
    have:=hy _ rfl
    simp only [Addr.mk.injEq,true_and] at this
    subst this
    repeat (first | refine we_seq ?_ | (refine wR ?_;try simp only [oS]) | refine wo_nil ?_ | refine wM ?_ | refine wD ?_ | refine wL ?_ | refine wE ?_ | refine wF ?_ | refine we_block ?_ | refine we_exit ?_)
    refine we_star (vec 1 (.slice none 0 0) (cutC (cutN g p.qs 0))::arr pb 0 [.slice (some ⟨sb,so,none⟩) ids.length sc,tv2,.slice none 0 0]::vec 1 (.slice (some ⟨sb,so,none⟩) ids.length sc) (ptrs ids)::vec 3 tv2 (trCP p.tr)::all (seatCs g ids p.qs)::g.U p.s::arr rb 0 [.slice none 0 0,.slice none 0 0]::shpC wg 132 2::F) (fun h st=>vec_nil (Ent.star (.take (.there .here) (.take (.there .here) (.take (.there .here) (.take (.there .here) (.take .here .refl))))) st)) ?_
    refine we_loopN (cutInv p ids wg pb rb (.slice (some ⟨sb,so,none⟩) ids.length sc) tv2 (arr rb 0 [.slice none 0 0,.slice none 0 0]::shpC wg 132 2::F)) (fun i=>ids.length-i.1) (0,.slice none 0 0) (Nat.zero_le _) ⟨rfl,rfl,rfl,rfl,rfl,rfl,trivial⟩ .refl (by simp only [cutInv];rw [shutS_zero]) ?_
    rintro ⟨k,cv⟩ hk
    replace hk:k≤ids.length:=hk
    simp only [cutInv]
    by_cases hlt3:k<ids.length
    ·have hi:ids[k]?=some ids[k]:=List.getElem?_eq_getElem hlt3
     have hq:p.qs[k]?=some (p.qs[k]'(by omega)):=List.getElem?_eq_getElem _
     obtain ⟨i,hie⟩:∃ i,ids[k]=i:=⟨_,rfl⟩
     obtain ⟨q,hqe⟩:∃ q,(p.qs[k]'(by omega))=q:=⟨_,rfl⟩
     rw [hie] at hi
     rw [hqe] at hq
     let er:=all ((seatCs g ids p.qs).eraseIdx k)
     refine we_star (seatR i.sb i.says i.turn i.fin::arr i.sb 3 (lastQ g q)::er::vec 1 cv (cutC (cutN g p.qs k))::arr pb 0 [.slice (some ⟨sb,so,none⟩) ids.length sc,tv2,cv]::vec 1 (.slice (some ⟨sb,so,none⟩) ids.length sc) (ptrs ids)::vec 3 tv2 (trCP p.tr)::g.U p.s::arr rb 0 [.slice none 0 0,.slice none 0 0]::shpC wg 132 2::F) (fun h st=>seat_pick hi hq (((.there (.there (.there (.there .here)))):Has (_::_::_::_::all (seatCs g ids p.qs)::_) _ _).star st)) ?_
     have hback:∀ {cv':Value} {cl:List Value} h,Star (seatR i.sb i.says i.turn i.fin::arr i.sb 3 (lastQ g q)::er::vec 1 cv' cl::arr pb 0 [.slice (some ⟨sb,so,none⟩) ids.length sc,tv2,cv']::vec 1 (.slice (some ⟨sb,so,none⟩) ids.length sc) (ptrs ids)::vec 3 tv2 (trCP p.tr)::g.U p.s::arr rb 0 [.slice none 0 0,.slice none 0 0]::shpC wg 132 2::F) h →
       Star (vec 1 cv' cl::arr pb 0 [.slice (some ⟨sb,so,none⟩) ids.length sc,tv2,cv']::vec 1 (.slice (some ⟨sb,so,none⟩) ids.length sc) (ptrs ids)::vec 3 tv2 (trCP p.tr)::all (seatCs g ids p.qs)::g.U p.s::arr rb 0 [.slice none 0 0,.slice none 0 0]::shpC wg 132 2::F) h:=fun h st=>by
      have s1:=seat_put (q':=q) hi hq st
      rw [set_same hq] at s1
      exact Ent.star (.take (.there .here) (.take (.there .here) (.take (.there .here) (.take (.there .here) (.take .here .refl))))) s1
     have hcl:(cutN g p.qs k).length≤k:=by have:=List.length_filter_le (fun k=>((p.qs[k]?).bind g.plan).isSome) (List.range k);rw [List.length_range] at this;exact this
     have hget:(shutS ids p.qs k)[k]?=some (⟨i.says,i.turn,i.fin,.said q⟩:Seat g.σ g.θ):=by rw [shutS_get hi hq,if_neg (by omega)];rfl
     have hsl2:ids.length=(shutS ids p.qs k).length:=(shutS_len hpq.symm).symm
     have rs:∀ {a b c d e:HProp} {M:List HProp},Rd (a::b::c::d::e::vec 1 (.slice (some ⟨sb,so,none⟩) ids.length sc) (ptrs ids)::M) sb (so+k) (.pointer (some ⟨i.sb,0,none⟩)):=rd_vec (cs:=ptrs ids) (.there (.there (.there (.there (.there .here))))) (by simp [ptrs,hi])
     refine we_pure (of_has (.there (.there (.there .here))) (vec_shape (by omega))) ?_
     rintro ⟨ca,cn,cc,rfl,hcn,_⟩
     have hcn:cn=(cutN g p.qs k).length:=by simp [cutC] at hcn;omega
     subst hcn
     cases hpl2:g.plan q with
     | none =>
      have hlq:lastQ g q=[.int .u8 0,.int .i64 0,.bool true]:=by unfold lastQ;rw [hpl2];rfl
      have hcut:cutN g p.qs (k+1)=cutN g p.qs k:=by rw [cutN_succ,hq];simp [hpl2]
      rw [hlq] at hback ⊢
      have rl:∀ {a:HProp} {M:List HProp},Rd (a::arr i.sb 3 [.int .u8 0,.int .i64 0,.bool true]::M) i.sb 5 (.bool true):=.there (Rd.row (k:=2) rfl rfl)
      have re:∀ {M:List HProp},Rd (seatR i.sb i.says i.turn i.fin::M) i.sb 1 (.chan (some i.fin)):=Rd.fro (k:=1) rfl rfl
      repeat (first | (apply wo_po;apply mo_index1;exact rfl;exact rfl;omega;exact gY) | (apply wo_po;apply mo_load;exact rfl;(first | exact rs | exact rl | exact re);exact trivial) | refine wlssT ?_ | refine we_seq ?_ | (refine wR ?_;try simp only [oS]) | refine wo_nil ?_ | refine wM ?_ | refine wA ?_ | refine wN ?_ | refine wD ?_ | (apply wo_po;apply mo_not;exact rfl;exact gY) | refine wT ?_ | refine wF ?_ | refine we_skip ?_ | refine we_block ?_)
      refine wo_shut (X:=⟨g,wg,shutS ids p.qs k,some p.s,16384-p.tr.length,ids.length,false,.play,none,0⟩) (j:=k) (c:=⟨i.says,i.turn,i.fin,.said q⟩) (q0:=q) rfl rfl rfl hsl2 rfl hget rfl trivial (by decide) ?_
      repeat (first | (refine wR ?_;try simp only [oS]) | refine wo_nil ?_ | refine wM ?_ | refine wadd ?_)
      refine at_roundS (B:=mT) (I:=cutInv p ids wg pb rb (.slice (some ⟨sb,so,none⟩) ids.length sc) tv2 (arr rb 0 [.slice none 0 0,.slice none 0 0]::shpC wg 132 2::F)) (R:=fun i'=>ids.length-i'.1<ids.length-k) (k+1,.slice ca (cutN g p.qs k).length cc) (by show ids.length-(k+1)<ids.length-k;omega) (show k+1≤ids.length by omega) ?_ (fun h st=>?_) ?_
      ·exact ⟨rfl,rfl,rfl,rfl,rfl,rfl,trivial⟩
      ·show Star (vec 1 _ (cutC (cutN g p.qs (k+1)))::_) h
       rw [hcut]
       exact hback h st
      ·simp only [cutInv]
       rw [← shutS_succ hi hq]
     | some mf =>
      obtain ⟨m,f⟩:=mf
      have hlq:lastQ g q=[.int .u8 m.1,.int .i64 m.2,.bool false]:=by unfold lastQ;rw [hpl2];rfl
      have hcut:cutN g p.qs (k+1)=cutN g p.qs k++[k]:=by rw [cutN_succ,hq];simp [hpl2]
      rw [hlq] at hback ⊢
      have rl:∀ {a:HProp} {M:List HProp},Rd (a::arr i.sb 3 [.int .u8 m.1,.int .i64 m.2,.bool false]::M) i.sb 5 (.bool false):=.there (Rd.row (k:=2) rfl rfl)
      have re:∀ {a b:HProp} {M:List HProp},Rd (a::b::seatR i.sb i.says i.turn i.fin::M) i.sb 1 (.chan (some i.fin)):=.there (.there (Rd.fro (k:=1) rfl rfl))
      repeat (first | (apply wo_po;apply mo_index1;exact rfl;exact rfl;omega;exact gY) | (apply wo_po;apply mo_load;exact rfl;(first | exact rs | exact rl);exact trivial) | (apply wo_mo;apply mo_buildSlice (sz:=1) (vs:=[.int .i64 (k:Nat)]);exact rfl;exact .cons rfl .nil;exact rfl;(intro v hv;cases (List.mem_singleton.1 hv);exact rfl);omega;exact trivial) | refine wlssT ?_ | refine we_seq ?_ | (refine wR ?_;try simp only [oS]) | refine wo_nil ?_ | refine wM ?_ | refine wA ?_ | refine wN ?_ | refine wD ?_ | (apply wo_po;apply mo_not;exact rfl;exact gY) | refine wL ?_ | refine wT ?_ | refine we_skip ?_ | refine we_block ?_)
      rintro v' L' ⟨nb,rfl,rfl⟩
      repeat (first | (apply wo_mo;apply mo_append (sz:=1) (new:=[.int .i64 (k:Nat)]);exact rfl;exact rfl;exact rfl;exact rfl;exact (.there (.there (.there (.there .here))));exact rfl;exact .inr ⟨_,_,rfl,Rds.all .here⟩;(intro v hv;cases (List.mem_singleton.1 hv);exact rfl);(simp only [sliceLen];omega);exact trivial))
      rintro v' L' rfl
      refine wo_pure (of_has .here (vec_shape (by omega))) ?_
      rintro ⟨ua,un,uc,rfl,hun,_⟩
      repeat (first | refine wS ?_ | (apply wo_po;apply mo_load;exact rfl;exact re;exact trivial) | (refine wR ?_;try simp only [oS]) | refine wo_nil ?_ | refine wM ?_ | refine wN ?_ | refine wD ?_)
      refine wo_shut (X:=⟨g,wg,shutS ids p.qs k,some p.s,16384-p.tr.length,ids.length,false,.play,none,0⟩) (j:=k) (c:=⟨i.says,i.turn,i.fin,.said q⟩) (q0:=q) rfl rfl rfl hsl2 rfl hget rfl trivial (by decide) ?_
      repeat (first | (refine wR ?_;try simp only [oS]) | refine wo_nil ?_ | refine wM ?_ | refine wadd ?_)
      refine at_roundS (B:=mT) (I:=cutInv p ids wg pb rb (.slice (some ⟨sb,so,none⟩) ids.length sc) tv2 (arr rb 0 [.slice none 0 0,.slice none 0 0]::shpC wg 132 2::F)) (R:=fun i'=>ids.length-i'.1<ids.length-k) (k+1,.slice ua un uc) (by show ids.length-(k+1)<ids.length-k;omega) (show k+1≤ids.length by omega) ?_ (fun h st=>?_) ?_
      ·exact ⟨rfl,rfl,rfl,rfl,rfl,rfl,trivial⟩
      ·show Star (vec 1 _ (cutC (cutN g p.qs (k+1)))::_) h
       have e4:cutC (cutN g p.qs (k+1))=cutC (cutN g p.qs k)++[.int .i64 (k:Nat)]:=by rw [hcut];simp [cutC]
       rw [e4]
       exact hback h (Ent.star (.take (.there (.there .here)) (.take (.there (.there .here)) (.take (.there (.there .here)) (.take .here (.drop .refl))))) st)
      ·simp only [cutInv]
       rw [← shutS_succ hi hq]
    ·obtain rfl:k=ids.length:=by omega
     repeat (first | refine wlssF ?_ | refine we_seq ?_ | (refine wR ?_;try simp only [oS]) | refine wo_nil ?_ | refine wF ?_ | refine we_exit ?_)
     refine wo_call (.cons rfl .nil) trivial (wgWait_tr (X:=⟨g,wg,shutS ids p.qs ids.length,some p.s,16384-p.tr.length,ids.length,false,.play,none,0⟩) rfl (by show ids.length<1000;omega) (shutS_len hpq.symm).symm (shutS_closed hpq.symm) (fun d e=>by cases e) rfl (fun h st=>shp_of (.there (.there (.there (.there (.there (.there (.there .here))))))) st)) ?_
     rintro v' L' x' ⟨rfl,rfl,rfl⟩
     rw [show GX.ends ⟨g,wg,shutS ids p.qs ids.length,some p.s,16384-p.tr.length,ids.length,false,.play,none,0⟩=all (p.qs.map g.Fin) from congrArg all (shutS_all hpq.symm)]
     repeat (first | (apply wo_po;apply mo_loadA (vs:=[tv2,cv]);exact rfl;exact rfl;exact Rds.row (k:=1) (.there (.there .here)) (by intro i v hv;match i,hv with | 0,hv=>exact hv | 1,hv=>exact hv);exact trivial) | refine we_seq ?_ | (refine wR ?_;try simp only [oS]) | refine wo_nil ?_ | refine wD ?_)
     refine wo_pure (of_has (.there .here) (vec_shape (by omega))) ?_
     rintro ⟨ca,cn,cc,rfl,_⟩
     refine wo_pure (of_has (.there (.there (.there (.there .here)))) (vec_shape (by omega))) ?_
     rintro ⟨ta2,tn2,tc2,rfl,_⟩
     repeat (first | (apply wo_pm;apply mo_storeA (c:=0) (k:=0) (a:=0) (vs:=[.slice none 0 0,.slice none 0 0]);exact rfl;exact rfl;exact rfl;(intro w hw;simp [Value.cells] at hw;rcases hw with rfl | rfl <;> rfl);exact rfl;exact Nat.le_refl 2;exact (.there (.there (.there (.there (.there (.there (.there .here)))))));exact trivial) | refine wo_nil ?_ | refine wA ?_ | refine we_ret ?_)
     refine at_leaveM (rs:=[.cell 4 91,.tmp 5]) Try.func30 Try.results30 hQ (.inl rfl) (.cons (.cell (vs:=[.slice ta2 tn2 tc2,.slice ca cn cc]) rfl rfl (Rds.all (.there (.there (.there (.there (.there (.there (.there .here))))))))) (.cons (.tmp rfl) .nil)) ?_
     refine ⟨_,_,rfl,rfl,fun h st=>?_⟩
     rw [← hids]
     exact Ent.star (.take (.there (.there (.there (.there .here)))) (.take (.there .here) (.take (.there (.there (.there (.there .here)))) (.take .here (.drop (.drop (.drop (.drop (.drop .refl))))))))) st
theorem plays_tr {oa ta:Option Addr} {on oc tn tc:Nat} {order:List Int} (I:PS g→Prop) (hS:∀ j,j<ts.length→g.ok (startF (ts.take j) s0).1) (hI0:I ⟨(startF ts s0).1,(startF ts s0).2,[]⟩) (hIs:∀ p k,I p→I (takeF p k).1) (hIo:∀ p,I p→p.tr.length<16384→g.ok p.s) (hfin:∀ q h,g.Pv q h→g.Fin q h) (hts:∀ t∈ts,ThrOk g t.ini t.fv t.M) (h1:0<ts.length) (h16:ts.length≤16) (hor:order.length≤16384)
  (hrt:RdsO F ta tn (ts.map Thr.fv)) (hro:RdsO F oa on (order.map fun k=>.int .i64 k)) :
  Tr Try.prog mT 30 [.slice oa on oc,.slice ta tn tc] (g.U s0::all (ts.map Thr.M)::F) .idle fun v L' x' =>
   ∃ tv cv,v=.tuple #[.agg #[tv,cv],.int .i64 0]∧x'=.idle∧L'=vec 3 tv (trCP (playF ts s0 order).tr)::vec 1 cv (cutC (cutN g (playF ts s0 order).qs ts.length))::g.U (playF ts s0 order).s::all ((playF ts s0 order).qs.map g.Fin)::F :=
 playsR_tr I hS hI0 hIs hIo (fun t ht=>(hts t ht).r hfin) h1 h16 hor hrt hro
end
end
end Go.Proofs.Ytmkkanmkjfnpdaa
namespace Go.Proofs.Ytmkkanmkjfnpdaa
open Go Go.PB
section
section
variable {g:Game}
theorem ordF_inv {I:PS g→Prop} (hs:∀ p k,I p→I (takeF p k).1):∀ (l:List Int) (p:PS g),I p→I (ordF p l)
 | [],p,h=>h
 | k::l,p,h=>ordF_inv hs l _ (hs p k h)
theorem roundF_inv {I:PS g→Prop} (hs:∀ p k,I p→I (takeF p k).1) {p:PS g} (h:I p):∀ n,I (roundF p n).1
 | 0=>h
 | n+1=>hs _ _ (roundF_inv hs h n)
theorem restF_inv {I:PS g→Prop} (hs:∀ p k,I p→I (takeF p k).1):∀ (n:Nat) (p:PS g),I p→I (restF n p)
 | 0,p,h=>h
 | n+1,p,h=>by
  unfold restF
  split
  ·exact restF_inv hs n _ (roundF_inv hs h _)
  ·exact roundF_inv hs h _
theorem playF_inv {I:PS g→Prop} (hs:∀ p k,I p→I (takeF p k).1) {ts:List (Thr g)} {s:g.σ} {o:List Int} (h0:I ⟨(startF ts s).1,(startF ts s).2,[]⟩):I (playF ts s o) :=
 restF_inv hs _ _ (ordF_inv hs _ _ h0)
theorem roundF_no {p:PS g}:∀ {n:Nat},(roundF p n).2=false→(roundF p n).1=p∧∀ k:Nat,k<n→takeF p k=(p,false)
 | 0,_=>⟨rfl,fun k h=>by omega⟩
 | n+1,h=>by
  have h':((takeF (roundF p n).1 n).2||(roundF p n).2)=false:=h
  rw [Bool.or_eq_false_iff] at h'
  obtain ⟨h1,h2⟩:=roundF_no h'.2
  rw [h1] at h'
  have h3:takeF p n=(p,false):=by
   rcases takeF_cases p n with e | ⟨_,_,_,_,_,_,_,_,e⟩
   ·exact e
   ·rw [e] at h';cases h'.1
  refine ⟨?_,fun k hk=>?_⟩
  ·show (takeF (roundF p n).1 n).1=p
   rw [h1,h3]
  ·by_cases e:k=n
   ·subst e;exact h3
   ·exact h2 k (by omega)
theorem take_stuck {p:PS g} {k:Nat} {q:g.θ} (hq:p.qs[k]?=some q) (h:takeF p k=(p,false)):g.plan q=none∨p.tr.length=16384:=by
 cases hp:g.plan q with
 | none=>exact .inl rfl
 | some mf =>
  obtain ⟨m,f⟩:=mf
  right
  by_cases htr:p.tr.length=16384
  ·exact htr
  ·unfold takeF at h
   rw [if_neg (by omega),Int.toNat_natCast,hq] at h
   simp only [hp,if_neg htr] at h
   have:=congrArg Prod.snd h
   cases this
theorem restF_done:∀ (n:Nat) (p:PS g),p.tr.length≤16384→16384<p.tr.length+n→∀ (k:Nat) q,(restF n p).qs[k]?=some q→g.plan q=none∨(restF n p).tr.length=16384
 | 0,p,h1,h2=>by omega
 | n+1,p,h1,h2=>by
  intro k q hq
  unfold restF at hq ⊢
  have hg:=roundF_grow p p.qs.length
  have hle:=roundF_le h1 p.qs.length
  split at hq
  ·rename_i hm
   rw [if_pos hm]
   rw [if_pos hm] at hg
   exact restF_done n _ hle (by omega) k q hq
  ·rename_i hm
   rw [if_neg hm]
   obtain ⟨e,hk⟩:=roundF_no (Bool.not_eq_true _▸hm:(roundF p p.qs.length).2=false)
   rw [e] at hq ⊢
   exact take_stuck hq (hk k (List.getElem?_eq_some_iff.1 hq).1)
theorem playF_done {ts:List (Thr g)} {s:g.σ} {o:List Int} {k:Nat} {q:g.θ} (hq:(playF ts s o).qs[k]?=some q):g.plan q=none∨(playF ts s o).tr.length=16384 :=
 restF_done 16385 _ (ordF_le _ _ (Nat.zero_le _)) (by omega) k q hq
theorem playF_len {ts:List (Thr g)} {s:g.σ} {o:List Int}:(playF ts s o).qs.length=ts.length :=
 playF_inv (I:=fun p=>p.qs.length=ts.length) (fun p k h=>by rw [takeF_len];exact h) (startF_len ts s)
theorem cutN_nil {qs:List g.θ} {n:Nat} (h:∀ (k:Nat) q,qs[k]?=some q→g.plan q=none):cutN g qs n=[]:=by
 unfold cutN
 rw [List.filter_eq_nil_iff]
 intro k _
 cases hq:qs[k]? with
 | none=>simp
 | some q=>simp [h k q hq]
end
def sumN (l:List Nat):Nat:=l.foldr (·+·) 0
theorem sumN_set:∀ {l:List Nat} {k a b:Nat},l[k]?=some a→sumN (l.set k b)+a=sumN l+b
 | [],_,_,_,h=>by simp at h
 | x::l,0,a,b,h=>by simp at h;subst h;simp only [List.set_cons_zero,sumN,List.foldr_cons];omega
 | x::l,k+1,a,b,h=>by
  have:=sumN_set (l:=l) (k:=k) (a:=a) (b:=b) (by simpa using h)
  simp only [List.set_cons_succ,sumN,List.foldr_cons] at this ⊢
  omega
end
end Go.Proofs.Ytmkkanmkjfnpdaa
namespace Go.Proofs.Ytmkkanmkjfnpdaa
open Go Go.PB
attribute [local irreducible] Mo Bin Eql Tr Wo Ap Wle
section
theorem wds_congr {addr:Nat→Nat × Nat} {N:Nat} {K:List (Nat × Nat × Value)} {f f':Nat→Nat} (e:∀ i,i<N→f i=f' i):∀ h,wds addr N K f h→wds addr N K f' h:=fun h s =>
 ⟨fun w hw=>by rw [← e w hw];exact s.1 w hw,s.2⟩
structure WGm where
 σ:Type
 θ:Type
 ζ:Type
 wf:σ→Nat→Nat
 zf:σ→ζ
 Z:ζ→HProp
 plan:θ→Option ((Int × Int) × (σ→σ × θ))
 ok:σ→Prop
 Pv:θ→HProp
 up:∀ q h,Star [Pv q] h→Pv q h
def WGm.g (G:WGm) (addr:Nat→Nat × Nat) (N:Nat) (K:List (Nat × Nat × Value)):Game where
 σ:=G.σ
 θ:=G.θ
 U:=fun s=>all [wds addr N K (G.wf s),G.Z (G.zf s)]
 plan:=G.plan
 ok:=G.ok
 Pv:=G.Pv
 Fin:=G.Pv
theorem sum_step {α:Type} {φ0 φ1:α→Nat} (h:∀ a,φ1 a≤φ0 a):∀ {l:List α} {k:Nat} {q q':α},l[k]?=some q→φ1 q'+1≤φ0 q→sumN ((l.set k q').map φ1)+1≤sumN (l.map φ0)
 | [],_,_,_,hq,_=>by simp at hq
 | a::l,0,q,q',hq,hl=>by
  simp at hq;subst hq
  have hle:∀ l:List α,sumN (l.map φ1)≤sumN (l.map φ0):=by
   intro l
   induction l with
   | nil=>simp [sumN]
   | cons b l ih=>have:=h b;simp only [List.map_cons,sumN,List.foldr_cons] at ih ⊢;omega
  have:=hle l
  simp only [List.set_cons_zero,List.map_cons,sumN,List.foldr_cons] at this ⊢;omega
 | a::l,k+1,q,q',hq,hl=>by
  have h1:=sum_step h (l:=l) (k:=k) (q:=q) (q':=q') (by simpa using hq) hl
  have h2:=h a
  simp only [List.set_cons_succ,List.map_cons,sumN,List.foldr_cons] at h1 ⊢;omega
theorem sum_le2 {α:Type} {φ0 φ1:α→Nat} {d:Nat} (h:∀ a,φ1 a≤φ0 a+d):∀ (l:List α),sumN (l.map φ1)≤sumN (l.map φ0)+d*l.length
 | []=>by simp [sumN]
 | a::l=>by
  have h1:=sum_le2 h l
  have h2:=h a
  simp only [List.map_cons,sumN,List.foldr_cons,List.length_cons,Nat.mul_add] at h1 ⊢;omega
theorem sum_set {α:Type} {φ:α→Nat} {l:List α} {k:Nat} {q q':α} (hq:l[k]?=some q):sumN ((l.set k q').map φ)+φ q=sumN (l.map φ)+φ q':=by
 rw [List.map_set]
 exact sumN_set (by rw [List.getElem?_map,hq];rfl)
theorem sum_step2 {α:Type} {φ0 φ1:α→Nat} {d:Nat} (h:∀ a,φ1 a≤φ0 a+d) {l:List α} {k:Nat} {q q':α} (hq:l[k]?=some q) (hl:φ1 q'+d*l.length+1≤φ1 q):sumN ((l.set k q').map φ1)+1≤sumN (l.map φ0):=by
 have h1:=sum_set (φ:=φ1) (q':=q') hq
 have h2:=sum_le2 h l
 omega
end
end Go.Proofs.Ytmkkanmkjfnpdaa
namespace Go.Proofs.Ytmkkanmkjfnpdaa
open Go Go.PB
attribute [local irreducible] Mo Bin Eql Tr Wo
section
structure Acc (B:Hand) (gv:Value) where
 S:Type
 C:S→HProp
 x:S→B.X
 step:Int→Nat→S→(S→Prop)→Prop
 addr:Nat→Nat × Nat
 load:Nat→S→(Nat→S→Prop)→Prop
 store:Nat→Nat→S→(S→Prop)→Prop
 cas:Nat→Nat→Nat→S→(Bool→S→Prop)→Prop
 add:Nat→Nat→S→(Nat→S→Prop)→Prop
 swap:Nat→Nat→S→(Nat→S→Prop)→Prop
 gate:(gv=.nilIface∧∀ op w s R,step op w s R→R s) ∨
  ∃ t p f,gv=.iface t p∧Met Try.prog t "Step" f∧Ent' Try.prog f∧∀ op w s R L F,step op w s R→Has L (C s) F →
   Tr Try.prog B f [p,.agg #[.int .u8 op,.int .i64 (w:Nat)]] L (x s) fun v L' x'=>∃ s',R s'∧v=.tuple #[]∧L'=C s'::F∧x'=x s'
 load_ok:∀ w s R L F b o,addr w=(b,o)→load w s R→Has L (C s) F→Tr Try.prog B 48 [.pointer (some ⟨b,o,none⟩)] L (x s) fun v L' x'=>∃ n s',n<18446744073709551616∧R n s'∧v=.int .u64 (n:Nat)∧L'=C s'::F∧x'=x s'
 store_ok:∀ w n s R L F b o,addr w=(b,o)→n<18446744073709551616→store w n s R→Has L (C s) F→Tr Try.prog B 62 [.pointer (some ⟨b,o,none⟩),.int .u64 (n:Nat)] L (x s) fun v L' x'=>∃ s',R s'∧v=.tuple #[]∧L'=C s'::F∧x'=x s'
 cas_ok:∀ w m n s R L F b o,addr w=(b,o)→n<18446744073709551616→cas w m n s R→Has L (C s) F→Tr Try.prog B 84 [.pointer (some ⟨b,o,none⟩),.int .u64 (m:Nat),.int .u64 (n:Nat)] L (x s) fun v L' x'=>∃ q s',R q s'∧v=.bool q∧L'=C s'::F∧x'=x s'
 add_ok:∀ w n s R L F b o,addr w=(b,o)→n<18446744073709551616→add w n s R→Has L (C s) F→Tr Try.prog B 65 [.pointer (some ⟨b,o,none⟩),.int .u64 (n:Nat)] L (x s) fun v L' x'=>∃ m s',m<18446744073709551616∧R m s'∧v=.int .u64 (m:Nat)∧L'=C s'::F∧x'=x s'
section
variable {B:Hand} [Lets B] {L F L1:List HProp}
theorem load_lone {b o:Nat} {n:Int} {x:B.X} (hr:Rd L b o (.int .u64 n)):Tr Try.prog B 48 [.pointer (some ⟨b,o,none⟩)] L x fun v L' x'=>v=.int .u64 n∧L'=L∧x'=x:=by
 refine tr_of_body Try.func48 rfl Try.ntmps48 (by simp) fun um Q _ hQ=>?_
 simp only [argE,Nat.zero_add,Nat.reduceAdd]
 repeat (first | (apply wo_po;apply mo_ext (args:=[_]);exact .cons rfl .nil;exact at_loadI hr;exact trivial) | refine we_seq ?_ | (refine wR ?_;try simp only [oS]) | refine wo_nil ?_ | refine wM ?_ | refine wA ?_ | refine wN ?_ | refine wD ?_ | refine we_ret ?_)
 (first | refine or1 Try.func48 Try.results48 hQ rfl ?_ | refine on1 Try.func48 Try.results48 hQ rfl ?_)
 exact ⟨rfl,rfl,rfl⟩
theorem store_lone {b o:Nat} {n:Int} {x:B.X} (hw:Wt L b o (.int .u64 n) L1):Tr Try.prog B 62 [.pointer (some ⟨b,o,none⟩),.int .u64 n] L x fun v L' x'=>v=.tuple #[]∧L'=L1∧x'=x:=by
 refine tr_of_body Try.func62 rfl Try.ntmps62 (by simp) fun um Q _ hQ=>?_
 simp only [argE,Nat.zero_add,Nat.reduceAdd]
 repeat (first | (apply wo_pm;apply mo_ext (args:=[_,_]);exact .cons rfl (.cons rfl .nil);exact at_storeI rfl hw;exact trivial) | (refine wR ?_;try simp only [oS]) | refine wo_nil ?_ | refine wM ?_ | refine wN ?_ | refine wD ?_)
 (first | refine or0 Try.func62 Try.results62 hQ ?_ | refine on0 Try.func62 Try.results62 hQ ?_)
 exact ⟨rfl,rfl,rfl⟩
theorem cas_lone {b o:Nat} {n m y:Int} {x:B.X} (hr:Rd L b o (.int .u64 n)) (hw:Wt L b o (.int .u64 y) L1):Tr Try.prog B 84 [.pointer (some ⟨b,o,none⟩),.int .u64 m,.int .u64 y] L x fun v L' x'=>v=.bool (decide (n=m))∧L'=(if n=m then L1 else L)∧x'=x:=by
 refine tr_of_body Try.func84 rfl Try.ntmps84 (by simp) fun um Q _ hQ=>?_
 simp only [argE,Nat.zero_add,Nat.reduceAdd]
 repeat (first | (apply wo_pm;apply mo_ext (args:=[_,_,_]);exact .cons rfl (.cons rfl (.cons rfl .nil));exact at_casI hr hw;exact trivial) | refine we_seq ?_ | (refine wR ?_;try simp only [oS]) | refine wo_nil ?_ | refine wM ?_ | refine wA ?_ | refine wN ?_ | refine wD ?_ | refine we_ret ?_)
 (first | refine or1 Try.func84 Try.results84 hQ rfl ?_ | refine on1 Try.func84 Try.results84 hQ rfl ?_)
 exact ⟨rfl,rfl,rfl⟩
theorem add_lone {b o:Nat} {n y r:Int} {x:B.X} (hr:Rd L b o (.int .u64 n)) (hn:IntKind.u64.wrap (n+y)=r) (hw:Wt L b o (.int .u64 r) L1):Tr Try.prog B 65 [.pointer (some ⟨b,o,none⟩),.int .u64 y] L x fun v L' x'=>v=.int .u64 r∧L'=L1∧x'=x:=by
 refine tr_of_body Try.func65 rfl Try.ntmps65 (by simp) fun um Q _ hQ=>?_
 simp only [argE,Nat.zero_add,Nat.reduceAdd]
 repeat (first | (apply wo_pm;apply mo_ext (args:=[_,_]);exact .cons rfl (.cons rfl .nil);exact at_addI hr hn hw;exact trivial) | refine we_seq ?_ | (refine wR ?_;try simp only [oS]) | refine wo_nil ?_ | refine wM ?_ | refine wA ?_ | refine wN ?_ | refine wD ?_ | refine we_ret ?_)
 (first | refine or1 Try.func65 Try.results65 hQ rfl ?_ | refine on1 Try.func65 Try.results65 hQ rfl ?_)
 exact ⟨rfl,rfl,rfl⟩
end
end
end Go.Proofs.Ytmkkanmkjfnpdaa
namespace Go.Proofs.Ytmkkanmkjfnpdaa
open Go Go.PB
attribute [local irreducible] Mo Bin Eql Tr Wo Ap Wle
section
structure QueueAt {B:Hand} {gv:Value} (A:Acc B gv) (r b n k:Nat):Prop where
 hn:n=2^k
 hk:k≤10
 hdr:∀ s,Rd [A.C s] r 2 (.slice (some ⟨b,0,none⟩) n n)
 a0:A.addr 0=(r,0)
 a1:A.addr 1=(r,1)
 a2:∀ i:Nat,i<2*n→A.addr (2+i)=(b,i)
section
variable {B:Hand} [Lets B] {gv:Value} {A:Acc B gv} {r b n k:Nat} {L F:List HProp}
theorem there_tr (R:QueueAt A r b n k) {s:A.S} (hh:Has L (A.C s) F) :
  Tr Try.prog B 66 [.pointer (some ⟨r,0,none⟩)] L (A.x s) fun v L' x'=>v=.bool true∧L'=L∧x'=A.x s:=by
 have hr:=Rd.of hh (R.hdr s)
 refine tr_of_body Try.func66 rfl Try.ntmps66 (by simp) fun um Q _ hQ=>?_
 simp only [argE,Nat.zero_add,Nat.reduceAdd]
 repeat (first | (apply wo_po;apply mo_load;exact rfl;exact hr;exact rfl) | refine we_seq ?_ | (refine wR ?_;try simp only [oS]) | refine wo_nil ?_ | refine wM ?_ | refine wA ?_ | refine wK ?_ | refine wN ?_ | refine wD ?_ | (apply wo_po;apply mo_bin;exact rfl;exact rfl;apply bin_ne;apply eql_ptr_nil;exact gY) | (apply wo_po;apply mo_bin;exact rfl;exact rfl;apply bin_ne;apply eql_slice_nil;exact gY) | refine we_ret ?_)
 (first | refine or1 Try.func66 Try.results66 hQ rfl ?_ | refine on1 Try.func66 Try.results66 hQ rfl ?_)
 exact ⟨rfl,rfl,rfl⟩
theorem step_tr {op:Int} {w:Nat} {s:A.S} {T:A.S→Prop} (hs:A.step op w s T) (hh:Has L (A.C s) F) :
  Tr Try.prog B 68 [gv,.int .u8 op,.int .i64 w] L (A.x s) fun v L' x'=>∃ s',T s'∧v=.tuple #[]∧L'=A.C s'::F∧x'=A.x s':=by
 rcases A.gate with ⟨rfl,hg⟩ | ⟨t,p,f,rfl,hm,he,hg⟩
 ·refine tr_of_body Try.func68 rfl Try.ntmps68 (by simp) fun um Q _ hQ=>?_
  simp only [argE,Nat.zero_add,Nat.reduceAdd]
  repeat (first | refine we_seq ?_ | (refine wR ?_;try simp only [oS]) | refine wo_nil ?_ | refine wM ?_ | (apply wo_po;apply mo_bin;exact rfl;exact rfl;apply bin_ne;apply eql_nil_nil;exact gY) | refine wF ?_ | refine we_skip ?_)
  refine at_ent _ (Ent.take hh .refl) ?_
  (first | refine or0 Try.func68 Try.results68 hQ ?_ | refine on0 Try.func68 Try.results68 hQ ?_)
  exact ⟨s,hg _ _ _ _ hs,rfl,rfl,rfl⟩
 ·refine tr_of_body Try.func68 rfl Try.ntmps68 (by simp) fun um Q _ hQ=>?_
  simp only [argE,Nat.zero_add,Nat.reduceAdd]
  repeat (first | (apply wo_po;apply mo_build (pv:=[(0,_),(1,_)]);exact rfl;exact .cons rfl (.cons rfl .nil);exact rfl;exact trivial) | refine we_seq ?_ | (refine wR ?_;try simp only [oS]) | refine wo_nil ?_ | refine wM ?_ | (apply wo_po;apply mo_bin;exact rfl;exact rfl;apply bin_ne;apply eql_iface_nil;exact gY) | refine wT ?_)
  refine wo_invoke (args:=[_]) rfl (.cons rfl .nil) trivial (hg op w s T L F hs hh) ?_
  rintro v L' x' ⟨s',h1,rfl,rfl,rfl⟩
  repeat (first | refine wo_nil ?_)
  (first | refine or0 Try.func68 Try.results68 hQ ?_ | refine on0 Try.func68 Try.results68 hQ ?_)
  exact ⟨s',h1,rfl,rfl,rfl⟩
def DrawF (A:Acc B gv) (n w whose:Nat) (Q:Option Nat→A.S→Prop) (X:A.S→Prop) (s:A.S):Prop :=
 A.step 1 w s fun s=>A.load w s fun t s=>A.step 1 (2+2*(t%n)) s fun s=>A.load (2+2*(t%n)) s fun q s =>
  if 9223372036854775808≤(q+36893488147419103232-t-whose)%18446744073709551616 then Q none s
  else if 0<(q+36893488147419103232-t-whose)%18446744073709551616 then X s
  else A.step 5 w s fun s=>A.cas w t ((t+1)%18446744073709551616) s fun c s=>if c then Q (some t) s else X s
def DrawT (A:Acc B gv) (n w whose:Nat) (s:A.S) (Q:Option Nat→A.S→Prop):Prop :=
 ∀ X:A.S→Prop,(∀ s,DrawF A n w whose Q X s→X s)→X s
theorem draw_tr (R:QueueAt A r b n k) {w whose:Nat} (hw:w=0∨w=1) (hwh:whose≤1) {s:A.S} {G:Option Nat→A.S→Prop} (hs:DrawT A n w whose s G) (hh:Has L (A.C s) F) :
  Tr Try.prog B 67 [.pointer (some ⟨r,0,none⟩),gv,.int .i64 w,.pointer (some ⟨r,w,none⟩),.int .u64 whose] L (A.x s) fun v' L' x'=>∃ q s',G q s' ∧
   (match q with
    | none=>v'=.tuple #[.int .u64 0,.int .i64 0,.bool false]
    | some t=>t<18446744073709551616∧v'=.tuple #[.int .u64 (t:Nat),.int .i64 ((t%n:Nat):Int),.bool true])∧L'=A.C s'::F∧x'=A.x s':=by
 have hle:n≤1024:=by rw [R.hn];exact pow_le R.hk
 have hpos:0<n:=by rw [R.hn];exact Nat.two_pow_pos k
 have aw:A.addr w=(r,w):=by rcases hw with rfl | rfl;exact R.a0;exact R.a1
 refine tr_of_body Try.func67 rfl Try.ntmps67 (by simp) fun um Q _ hQ=>?_
 simp only [argE,Nat.zero_add,Nat.reduceAdd]
 repeat (first | refine we_seq ?_ | (refine wR ?_;try simp only [oS]) | refine wo_nil ?_ | refine wA ?_ | refine we_label ?_ | refine we_block ?_ | refine we_scope ?_)
 refine we_lfp (DrawF A n w whose G) (fun s=>A.C s::F) A.x s hs [(0,.pointer (some ⟨r,0,none⟩)),(1,gv),(2,.int .i64 w),(3,.pointer (some ⟨r,w,none⟩)),(4,.int .u64 whose)] ⟨rfl,rfl,rfl,rfl,rfl,trivial⟩ (.take hh .refl) rfl ?_
 intro s hs
 repeat (first | refine we_seq ?_ | (refine wR ?_;try simp only [oS]) | refine wM ?_ | refine we_block ?_)
 refine wo_call (.cons rfl (.cons rfl (.cons rfl .nil))) trivial (step_tr hs .here) ?_
 rintro v1 L1 x1 ⟨s1,h1,rfl,rfl,rfl⟩
 repeat (first | refine we_seq ?_ | (refine wR ?_;try simp only [oS]) | refine wo_nil ?_ | refine wM ?_)
 refine wo_call (.cons rfl .nil) trivial (A.load_ok _ _ _ _ _ _ _ aw h1 .here) ?_
 rintro v1 L1 x1 ⟨t,s2,ht,h2,rfl,rfl,rfl⟩
 have hpow:=and_pow2 R.hn R.hk (p:=t) (by omega) (by omega)
 rw [Int.toNat_natCast] at hpow
 obtain ⟨m,hm⟩:∃ m,t%n=m:=⟨_,rfl⟩
 have hmod:m<n:=by rw [← hm];exact Nat.mod_lt _ hpos
 rw [hm] at hpow h2
 have hr:Rd (A.C s2::F) r 2 _:=Rd.of .here (R.hdr s2)
 have hw2:IntKind.i64.wrap ((2:Int)+2*(m:Int))=((2+2*m:Nat):Int):=by rw [wrap_i64 (by omega) (by omega)];omega
 repeat (first | (apply wo_po;apply mo_bin;exact rfl;exact rfl;apply bin_and;exact hpow;exact trivial) | (apply wo_po;apply mo_load;exact rfl;exact hr;exact trivial) | (apply wo_po;apply mo_bin;exact rfl;exact rfl;apply bin_mul;exact wrap_i64 (by omega) (by omega);exact trivial) | (apply wo_po;apply mo_bin;exact rfl;exact rfl;apply bin_add;exact hw2;exact trivial) | refine we_seq ?_ | (refine wR ?_;try simp only [oS]) | refine wo_nil ?_ | refine wM ?_ | refine wA ?_ | refine wN ?_ | refine wD ?_ | refine wsub ?_ | refine wE ?_ | (apply wo_po;apply mo_conv;exact rfl;(first | exact wrap_i64 (by omega) (by omega) | exact wrap_u64 (by omega) (by omega));exact gY))
 refine wo_call (.cons rfl (.cons rfl (.cons rfl .nil))) trivial (step_tr h2 .here) ?_
 rintro v1 L1 x1 ⟨s3,h3,rfl,rfl,rfl⟩
 have hr3:Rd (A.C s3::F) r 2 _:=Rd.of .here (R.hdr s3)
 repeat (first | (apply wo_po;apply mo_load;exact rfl;exact hr3;exact trivial) | (apply wo_po;apply mo_indexAddr (r:=2*m);exact rfl;exact rfl;omega;omega;omega;exact trivial) | refine we_seq ?_ | (refine wR ?_;try simp only [oS]) | refine wo_nil ?_ | refine wM ?_ | refine wN ?_ | refine wD ?_)
 refine wo_call (.cons rfl .nil) trivial (A.load_ok _ _ _ _ _ _ _ (R.a2 (2*m) (by omega)) h3 .here) ?_
 rintro v1 L1 x1 ⟨q,s4,hq,h4,rfl,rfl,rfl⟩
 have hsub1:IntKind.u64.wrap ((q:Int)-(t:Int))=(((q+18446744073709551616-t)%18446744073709551616:Nat):Int):=by rw [wrap_u64_mod];omega
 have hsub2:IntKind.u64.wrap ((((q+18446744073709551616-t)%18446744073709551616:Nat):Int)-(whose:Int))=(((q+36893488147419103232-t-whose)%18446744073709551616:Nat):Int):=by rw [wrap_u64_mod];omega
 obtain ⟨d,hd⟩:∃ d,(q+36893488147419103232-t-whose)%18446744073709551616=d:=⟨_,rfl⟩
 obtain ⟨d0,hd0⟩:∃ d,(q+18446744073709551616-t)%18446744073709551616=d:=⟨_,rfl⟩
 rw [hd0] at hsub1 hsub2
 rw [hd] at hsub2 h4
 have hd64:d<18446744073709551616:=by rw [← hd];exact Nat.mod_lt _ (by decide)
 clear hd hd0
 obtain ⟨sd,hsd⟩:∃ sd,IntKind.i64.wrap (d:Int)=sd:=⟨_,rfl⟩
 have hsd':=hsd
 rw [wrap_i64_s hd64] at hsd'
 by_cases c1:9223372036854775808≤d
 ·rw [if_pos c1] at h4
  have hneg:sd<0:=by rw [if_neg (by omega)] at hsd';omega
  clear hsd'
  repeat (first | (apply wo_po;apply mo_bin;exact rfl;exact rfl;apply bin_sub;exact hsub1;exact trivial) | (apply wo_po;apply mo_bin;exact rfl;exact rfl;apply bin_sub;exact hsub2;exact trivial) | (apply wo_po;apply mo_conv;exact rfl;exact hsd;exact trivial) | refine wlssT ?_ | refine we_seq ?_ | (refine wR ?_;try simp only [oS]) | refine wo_nil ?_ | refine wM ?_ | refine wA ?_ | refine wT ?_ | refine we_ret ?_ | refine we_block ?_)
  (first | refine or3 Try.func67 Try.results67 hQ rfl rfl rfl ?_ | refine on3 Try.func67 Try.results67 hQ rfl rfl rfl ?_)
  exact ⟨none,s4,h4,rfl,rfl,rfl⟩
 ·rw [if_neg c1] at h4
  by_cases c2:0<d
  ·rw [if_pos c2] at h4
   have hneg:0<sd:=by rw [if_pos (by omega)] at hsd';omega
   clear hsd'
   repeat (first | (apply wo_po;apply mo_bin;exact rfl;exact rfl;apply bin_sub;exact hsub1;exact trivial) | (apply wo_po;apply mo_bin;exact rfl;exact rfl;apply bin_sub;exact hsub2;exact trivial) | (apply wo_po;apply mo_conv;exact rfl;exact hsd;exact trivial) | refine wlssF ?_ | refine wgtrT ?_ | refine we_seq ?_ | (refine wR ?_;try simp only [oS]) | refine wo_nil ?_ | refine wM ?_ | refine wA ?_ | refine wT ?_ | refine wF ?_ | refine we_block ?_ | refine we_exit ?_)
   exact at_again h4 ⟨rfl,rfl,rfl,rfl,rfl,trivial⟩ .refl
  ·rw [if_neg c2] at h4
   have hneg:sd=0:=by rw [if_pos (by omega)] at hsd';omega
   clear hsd'
   repeat (first | (apply wo_po;apply mo_bin;exact rfl;exact rfl;apply bin_sub;exact hsub1;exact trivial) | (apply wo_po;apply mo_bin;exact rfl;exact rfl;apply bin_sub;exact hsub2;exact trivial) | (apply wo_po;apply mo_conv;exact rfl;exact hsd;exact trivial) | refine wlssF ?_ | refine wgtrF ?_ | refine we_seq ?_ | (refine wR ?_;try simp only [oS]) | refine wo_nil ?_ | refine wM ?_ | refine wA ?_ | refine wF ?_ | refine we_skip ?_ | refine we_block ?_)
   refine wo_call (.cons rfl (.cons rfl (.cons rfl .nil))) trivial (step_tr h4 .here) ?_
   rintro v1 L1 x1 ⟨s5,h5,rfl,rfl,rfl⟩
   have hadd:IntKind.u64.wrap ((t:Int)+1)=(((t+1)%18446744073709551616:Nat):Int):=by rw [wrap_u64_mod];omega
   repeat (first | (apply wo_po;apply mo_bin;exact rfl;exact rfl;apply bin_add;exact hadd;exact trivial) | refine we_seq ?_ | (refine wR ?_;try simp only [oS]) | refine wo_nil ?_ | refine wM ?_)
   refine wo_call (.cons rfl (.cons rfl (.cons rfl .nil))) trivial (A.cas_ok _ _ _ _ _ _ _ _ _ aw (Nat.mod_lt _ (by decide)) h5 .here) ?_
   rintro v1 L1 x1 ⟨c,s6,h6,rfl,rfl,rfl⟩
   cases c
   ·simp only [Bool.false_eq_true,if_false] at h6
    repeat (first | refine wo_nil ?_ | refine wF ?_ | refine we_skip ?_)
    exact at_again h6 ⟨rfl,rfl,rfl,rfl,rfl,trivial⟩ .refl
   ·repeat (first | refine we_seq ?_ | (refine wR ?_;try simp only [oS]) | refine wo_nil ?_ | refine wM ?_ | refine wA ?_ | refine wT ?_ | refine we_ret ?_)
    (first | refine or3 Try.func67 Try.results67 hQ rfl rfl rfl ?_ | refine on3 Try.func67 Try.results67 hQ rfl rfl rfl ?_)
    exact ⟨some t,s6,by simpa using h6,⟨ht,by rw [hm]⟩,rfl,rfl⟩
def PutT (A:Acc B gv) (n v:Nat) (s:A.S) (G:Bool→A.S→Prop):Prop :=
 DrawT A n 0 0 s fun q s=>match q with
  | none=>G false s
  | some t=>A.step 2 (3+2*(t%n)) s fun s=>A.store (3+2*(t%n)) v s fun s=>A.step 2 (2+2*(t%n)) s fun s=>A.store (2+2*(t%n)) ((t+1)%18446744073709551616) s (G true)
def TakeT (A:Acc B gv) (n:Nat) (s:A.S) (G:Option Nat→A.S→Prop):Prop :=
 DrawT A n 1 1 s fun q s=>match q with
  | none=>G none s
  | some t=>A.step 1 (3+2*(t%n)) s fun s=>A.load (3+2*(t%n)) s fun v s=>A.step 2 (2+2*(t%n)) s fun s=>A.store (2+2*(t%n)) ((t+n)%18446744073709551616) s (G (some v))
theorem put_tr (R:QueueAt A r b n k) {v:Nat} (hv:v<18446744073709551616) {s:A.S} {G:Bool→A.S→Prop} (hs:PutT A n v s G) (hh:Has L (A.C s) F) :
  Tr Try.prog B 45 [.pointer (some ⟨r,0,none⟩),gv,.int .u64 v] L (A.x s) fun v' L' x'=>∃ q s',G q s'∧v'=.tuple #[.bool q,.int .i64 0]∧L'=A.C s'::F∧x'=A.x s':=by
 have hle:n≤1024:=by rw [R.hn];exact pow_le R.hk
 have hpos:0<n:=by rw [R.hn];exact Nat.two_pow_pos k
 unfold PutT at hs
 refine tr_of_body Try.func45 rfl Try.ntmps45 (by simp) fun um Q _ hQ=>?_
 simp only [argE,Nat.zero_add,Nat.reduceAdd]
 repeat (first | refine we_seq ?_ | (refine wR ?_;try simp only [oS]) | refine wo_nil ?_ | refine wM ?_ | refine wA ?_)
 refine wo_call (.cons rfl .nil) trivial (there_tr R hh) ?_
 rintro v1 L1 x1 ⟨rfl,rfl,rfl⟩
 repeat (first | refine we_seq ?_ | (refine wR ?_;try simp only [oS]) | refine wo_nil ?_ | refine wM ?_ | refine wN ?_ | refine wD ?_ | (apply wo_po;apply mo_not;exact rfl;exact gY) | refine wF ?_ | refine we_skip ?_)
 refine wo_call (.cons rfl (.cons rfl (.cons rfl (.cons rfl (.cons rfl .nil))))) trivial (draw_tr (w:=0) (whose:=0) R (.inl rfl) (by omega) hs hh) ?_
 rintro v1 L1 x1 ⟨q,s1,h1,h2,rfl,rfl⟩
 cases q with
 | none =>
  subst h2
  repeat (first | refine we_seq ?_ | (refine wR ?_;try simp only [oS]) | refine wo_nil ?_ | refine wM ?_ | refine wA ?_ | (apply wo_po;apply mo_extract;exact rfl;exact rfl;exact gY) | (apply wo_po;apply mo_not;exact rfl;exact gY) | refine wT ?_ | refine we_ret ?_)
  (first | refine or2 Try.func45 Try.results45 hQ rfl rfl ?_ | refine on2 Try.func45 Try.results45 hQ rfl rfl ?_)
  exact ⟨false,s1,h1,rfl,rfl,rfl⟩
 | some t =>
  obtain ⟨ht,rfl⟩:=h2
  obtain ⟨m,hm⟩:∃ m,t%n=m:=⟨_,rfl⟩
  have hmod:m<n:=by rw [← hm];exact Nat.mod_lt _ hpos
  simp only at h1
  rw [hm] at h1 ⊢
  have hw2:IntKind.i64.wrap ((2:Int)+2*(m:Int))=((2+2*m:Nat):Int):=by rw [wrap_i64 (by omega) (by omega)];omega
  have hw3:IntKind.i64.wrap ((3:Int)+2*(m:Int))=((3+2*m:Nat):Int):=by rw [wrap_i64 (by omega) (by omega)];omega
  have a3:A.addr (3+2*m)=(b,2*m+1):=by rw [show 3+2*m=2+(2*m+1) by omega];exact R.a2 _ (by omega)
  repeat (first | (apply wo_po;apply mo_bin;exact rfl;exact rfl;apply bin_mul;exact wrap_i64 (by omega) (by omega);exact trivial) | (apply wo_po;apply mo_bin;exact rfl;exact rfl;apply bin_add;exact hw3;exact trivial) | refine we_seq ?_ | (refine wR ?_;try simp only [oS]) | refine wo_nil ?_ | refine wM ?_ | refine wA ?_ | (apply wo_po;apply mo_extract;exact rfl;exact rfl;exact gY) | (apply wo_po;apply mo_not;exact rfl;exact gY) | refine wF ?_ | refine we_skip ?_)
  refine wo_call (.cons rfl (.cons rfl (.cons rfl .nil))) trivial (step_tr h1 .here) ?_
  rintro v1 L1 x1 ⟨s3,h3,rfl,rfl,rfl⟩
  have hr3:Rd (A.C s3::F) r 2 _:=Rd.of .here (R.hdr s3)
  repeat (first | (apply wo_po;apply mo_load;exact rfl;exact hr3;exact trivial) | (apply wo_po;apply mo_indexAddr (r:=2*m);exact rfl;exact rfl;omega;omega;omega;exact trivial) | refine we_seq ?_ | (refine wR ?_;try simp only [oS]) | refine wo_nil ?_ | refine wM ?_ | refine wN ?_ | refine wD ?_)
  refine wo_call (.cons rfl (.cons rfl .nil)) trivial (A.store_ok _ _ _ _ _ _ _ _ a3 hv h3 .here) ?_
  rintro v1 L1 x1 ⟨s4,h4,rfl,rfl,rfl⟩
  repeat (first | (apply wo_po;apply mo_bin;exact rfl;exact rfl;apply bin_mul;exact wrap_i64 (by omega) (by omega);exact trivial) | (apply wo_po;apply mo_bin;exact rfl;exact rfl;apply bin_add;exact hw2;exact trivial) | refine we_seq ?_ | (refine wR ?_;try simp only [oS]) | refine wo_nil ?_ | refine wM ?_)
  refine wo_call (.cons rfl (.cons rfl (.cons rfl .nil))) trivial (step_tr h4 .here) ?_
  rintro v1 L1 x1 ⟨s5,h5,rfl,rfl,rfl⟩
  have hr5:Rd (A.C s5::F) r 2 _:=Rd.of .here (R.hdr s5)
  have hadd:IntKind.u64.wrap ((t:Int)+1)=(((t+1)%18446744073709551616:Nat):Int):=by rw [wrap_u64_mod];omega
  repeat (first | (apply wo_po;apply mo_load;exact rfl;exact hr5;exact trivial) | (apply wo_po;apply mo_indexAddr (r:=2*m);exact rfl;exact rfl;omega;omega;omega;exact trivial) | (apply wo_po;apply mo_bin;exact rfl;exact rfl;apply bin_add;exact hadd;exact trivial) | refine we_seq ?_ | (refine wR ?_;try simp only [oS]) | refine wo_nil ?_ | refine wM ?_ | refine wN ?_ | refine wD ?_)
  refine wo_call (.cons rfl (.cons rfl .nil)) trivial (A.store_ok _ _ _ _ _ _ _ _ (R.a2 (2*m) (by omega)) (Nat.mod_lt _ (by decide)) h5 .here) ?_
  rintro v1 L1 x1 ⟨s6,h6,rfl,rfl,rfl⟩
  repeat (first | refine we_seq ?_ | (refine wR ?_;try simp only [oS]) | refine wo_nil ?_ | refine wA ?_ | refine we_ret ?_)
  (first | refine or2 Try.func45 Try.results45 hQ rfl rfl ?_ | refine on2 Try.func45 Try.results45 hQ rfl rfl ?_)
  exact ⟨true,s6,h6,rfl,rfl,rfl⟩
theorem take_tr (R:QueueAt A r b n k) {s:A.S} {G:Option Nat→A.S→Prop} (hs:TakeT A n s G) (hh:Has L (A.C s) F) :
  Tr Try.prog B 46 [.pointer (some ⟨r,0,none⟩),gv] L (A.x s) fun v' L' x'=>∃ q s',G q s'∧q.getD 0<18446744073709551616∧v'=.tuple #[.int .u64 (q.getD 0:Nat),.bool q.isSome,.int .i64 0]∧L'=A.C s'::F∧x'=A.x s':=by
 have hle:n≤1024:=by rw [R.hn];exact pow_le R.hk
 have hpos:0<n:=by rw [R.hn];exact Nat.two_pow_pos k
 unfold TakeT at hs
 refine tr_of_body Try.func46 rfl Try.ntmps46 (by simp) fun um Q _ hQ=>?_
 simp only [argE,Nat.zero_add,Nat.reduceAdd]
 repeat (first | refine we_seq ?_ | (refine wR ?_;try simp only [oS]) | refine wo_nil ?_ | refine wM ?_ | refine wA ?_)
 refine wo_call (.cons rfl .nil) trivial (there_tr R hh) ?_
 rintro v1 L1 x1 ⟨rfl,rfl,rfl⟩
 repeat (first | refine we_seq ?_ | (refine wR ?_;try simp only [oS]) | refine wo_nil ?_ | refine wM ?_ | refine wN ?_ | refine wD ?_ | (apply wo_po;apply mo_not;exact rfl;exact gY) | refine wF ?_ | refine we_skip ?_)
 refine wo_call (.cons rfl (.cons rfl (.cons rfl (.cons rfl (.cons rfl .nil))))) trivial (draw_tr (w:=1) (whose:=1) R (.inr rfl) (by omega) hs hh) ?_
 rintro v1 L1 x1 ⟨q,s1,h1,h2,rfl,rfl⟩
 cases q with
 | none =>
  subst h2
  repeat (first | refine we_seq ?_ | (refine wR ?_;try simp only [oS]) | refine wo_nil ?_ | refine wM ?_ | refine wA ?_ | (apply wo_po;apply mo_extract;exact rfl;exact rfl;exact gY) | (apply wo_po;apply mo_not;exact rfl;exact gY) | refine wT ?_ | refine we_ret ?_)
  (first | refine or3 Try.func46 Try.results46 hQ rfl rfl rfl ?_ | refine on3 Try.func46 Try.results46 hQ rfl rfl rfl ?_)
  exact ⟨none,s1,h1,by decide,rfl,rfl,rfl⟩
 | some t =>
  obtain ⟨ht,rfl⟩:=h2
  obtain ⟨m,hm⟩:∃ m,t%n=m:=⟨_,rfl⟩
  have hmod:m<n:=by rw [← hm];exact Nat.mod_lt _ hpos
  simp only at h1
  rw [hm] at h1 ⊢
  have hw2:IntKind.i64.wrap ((2:Int)+2*(m:Int))=((2+2*m:Nat):Int):=by rw [wrap_i64 (by omega) (by omega)];omega
  have hw3:IntKind.i64.wrap ((3:Int)+2*(m:Int))=((3+2*m:Nat):Int):=by rw [wrap_i64 (by omega) (by omega)];omega
  have a3:A.addr (3+2*m)=(b,2*m+1):=by rw [show 3+2*m=2+(2*m+1) by omega];exact R.a2 _ (by omega)
  repeat (first | (apply wo_po;apply mo_bin;exact rfl;exact rfl;apply bin_mul;exact wrap_i64 (by omega) (by omega);exact trivial) | (apply wo_po;apply mo_bin;exact rfl;exact rfl;apply bin_add;exact hw3;exact trivial) | refine we_seq ?_ | (refine wR ?_;try simp only [oS]) | refine wo_nil ?_ | refine wM ?_ | refine wA ?_ | (apply wo_po;apply mo_extract;exact rfl;exact rfl;exact gY) | (apply wo_po;apply mo_not;exact rfl;exact gY) | refine wF ?_ | refine we_skip ?_)
  refine wo_call (.cons rfl (.cons rfl (.cons rfl .nil))) trivial (step_tr h1 .here) ?_
  rintro v1 L1 x1 ⟨s3,h3,rfl,rfl,rfl⟩
  have hr3:Rd (A.C s3::F) r 2 _:=Rd.of .here (R.hdr s3)
  repeat (first | (apply wo_po;apply mo_load;exact rfl;exact hr3;exact trivial) | (apply wo_po;apply mo_indexAddr (r:=2*m);exact rfl;exact rfl;omega;omega;omega;exact trivial) | refine we_seq ?_ | (refine wR ?_;try simp only [oS]) | refine wo_nil ?_ | refine wM ?_ | refine wN ?_ | refine wD ?_)
  refine wo_call (.cons rfl .nil) trivial (A.load_ok _ _ _ _ _ _ _ a3 h3 .here) ?_
  rintro v1 L1 x1 ⟨v,s4,hv,h4,rfl,rfl,rfl⟩
  repeat (first | (apply wo_po;apply mo_bin;exact rfl;exact rfl;apply bin_mul;exact wrap_i64 (by omega) (by omega);exact trivial) | (apply wo_po;apply mo_bin;exact rfl;exact rfl;apply bin_add;exact hw2;exact trivial) | refine we_seq ?_ | (refine wR ?_;try simp only [oS]) | refine wo_nil ?_ | refine wM ?_ | refine wA ?_)
  refine wo_call (.cons rfl (.cons rfl (.cons rfl .nil))) trivial (step_tr h4 .here) ?_
  rintro v1 L1 x1 ⟨s5,h5,rfl,rfl,rfl⟩
  have hr5:Rd (A.C s5::F) r 2 _:=Rd.of .here (R.hdr s5)
  have hadd:IntKind.u64.wrap ((t:Int)+(n:Int))=(((t+n)%18446744073709551616:Nat):Int):=by rw [wrap_u64_mod];omega
  repeat (first | refine we_seq ?_ | refine wo_nil ?_)
  refine we_draw [0,1,2,3,4,5,6,7,8,9,10,11,12,13,14,15] (by kernel_rfl) ?_
  repeat (first | (apply ap_read;exact rfl;exact rfl;exact trivial;apply mo_load;exact rfl;exact hr5) | (apply ap_pure;exact rfl;exact rfl;exact trivial;intro L;apply mo_indexAddr (r:=2*m);exact rfl;exact rfl;omega;omega;omega) | (apply ap_pure;exact rfl;exact rfl;exact trivial;intro L;apply mo_conv;exact rfl;exact wrap_u64 (by omega) (by omega)) | (apply ap_pure;exact rfl;exact rfl;exact trivial;intro L;apply mo_bin;exact rfl;exact rfl;apply bin_add;exact hadd) | refine aM ?_ | refine aN ?_ | refine aD ?_ | (apply ap_pure;exact rfl;exact rfl;exact gY;intro L;apply mo_len;exact rfl))
  refine ap_callv rfl rfl rfl rfl trivial rfl rfl (.cons rfl (.cons rfl .nil)) (A.store_ok _ _ _ _ _ _ _ _ (R.a2 (2*m) (by omega)) (Nat.mod_lt _ (by decide)) h5 .here) ?_
  rintro v1 L1 x1 ⟨s6,h6,rfl,rfl,rfl⟩
  refine ap_end ?_
  repeat (first | refine we_seq ?_ | (refine wR ?_;try simp only [oS]) | refine wo_nil ?_ | refine wM ?_ | refine wA ?_ | refine we_ret ?_)
  (first | refine or3 Try.func46 Try.results46 hQ rfl rfl rfl ?_ | refine on3 Try.func46 Try.results46 hQ rfl rfl rfl ?_)
  exact ⟨some v,s6,h6,hv,rfl,rfl,rfl⟩
end
end
end Go.Proofs.Ytmkkanmkjfnpdaa
namespace Go.Proofs.Ytmkkanmkjfnpdaa
open Go Go.PB
attribute [local irreducible] Mo Bin Eql Tr Wo
section
variable {B:Hand} [Lets B]
def loneAcc (x:B.X) (addr:Nat→Nat × Nat) (N:Nat) (K:List (Nat × Nat × Value)) (A:Apart addr N K):Acc B .nilIface where
 S:=Nat→Nat
 C:=wds addr N K
 x:=fun _=>x
 step:=fun _ _ s R=>R s
 addr:=addr
 load:=fun w s R=>w<N∧R (s w) s
 store:=fun w n s R=>w<N∧R (upd s w n)
 cas:=fun w a n s R=>w<N∧if s w=a then R true (upd s w n) else R false s
 add:=fun w n s R=>w<N∧R ((s w+n)%18446744073709551616) (upd s w ((s w+n)%18446744073709551616))
 swap:=fun w n s R=>w<N∧R (s w) (upd s w n)
 gate:=.inl ⟨rfl,fun _ _ _ _ h=>h⟩
 load_ok:=fun w s R L F b o ha hl hh=>tr_pure (of_has hh fun h hc=>(hc.1 w hl.1).1) fun hs =>
  (load_lone (rd_wds hh hl.1 ha)).post fun v L' x' ⟨h1,h2,h3⟩=>⟨_,⟨s w,s,hs,hl.2,h1,rfl,h3⟩,fun h st=>hh.star (h2▸st)⟩
 store_ok:=fun w n s R L F b o ha hn hl hh =>
  (store_lone (wt_wds A hh hl.1 ha hn)).mono fun v L' x' ⟨h1,h2,h3⟩=>⟨upd s w n,hl.2,h1,h2,h3⟩
 cas_ok:=fun w m n s R L F b o ha hn hl hh =>
  (cas_lone (rd_wds hh hl.1 ha) (wt_wds A hh hl.1 ha hn)).post fun v L' x' ⟨h1,h2,h3⟩=>by
   obtain ⟨h4,h5⟩:=hl
   by_cases e:s w=m
   ·rw [if_pos e] at h5;rw [if_pos (by omega)] at h2;exact ⟨_,⟨true,_,h5,by rw [h1];simp [e],rfl,h3⟩,fun h st=>h2▸st⟩
   ·rw [if_neg e] at h5;rw [if_neg (by omega)] at h2;exact ⟨_,⟨false,_,h5,by rw [h1];simp;omega,rfl,h3⟩,fun h st=>hh.star (h2▸st)⟩
 add_ok:=fun w n s R L F b o ha hn hl hh =>
  (add_lone (r:=((s w+n)%18446744073709551616:Nat)) (rd_wds hh hl.1 ha) (by rw [wrap_u64_mod];omega) (wt_wds A hh hl.1 ha (Nat.mod_lt _ (by decide)))).mono fun v L' x' ⟨h1,h2,h3⟩=>⟨_,_,Nat.mod_lt _ (by decide),hl.2,h1,h2,h3⟩
end
section
variable {B:Hand} [Lets B] {L:List HProp} {x:B.X}
theorem tmod_emod {n k:Int} (hk:0<k):(n.tmod k<0→n.tmod k+k=n%k)∧(¬ n.tmod k<0→n.tmod k=n%k):=by
 have h1:=Int.emod_nonneg n (by omega:k≠0)
 have h2:=Int.emod_lt_of_pos n hk
 have h3:n.tmod k=n%k-((if 0≤n∨k ∣ n then 0 else k.natAbs:Nat):Int):=Int.tmod_eq_emod
 have h4:=Int.tmod_lt_of_pos n hk
 split at h3
 ·constructor <;> intro h5 <;> omega
 ·rename_i hn
  have h6:n%k≠0:=fun h=>hn (.inr (Int.dvd_of_emod_eq_zero h))
  constructor <;> intro h5 <;> omega
theorem within_tr {n k:Int} (hn:-9223372036854775808≤n∧n≤9223372036854775807) (hk:0<k∧k≤1000000) :
  Tr Try.prog B 37 [.int .i64 n,.int .i64 k] L x fun v L' x'=>v=.int .i64 (n%k)∧L'=L∧x'=x:=by
 have ht:=tmod_emod (n:=n) hk.1
 have h1:=Int.emod_nonneg n (by omega:k≠0)
 have h2:=Int.emod_lt_of_pos n hk.1
 have hlt:=Int.tmod_lt_of_pos n hk.1
 obtain ⟨m,hm⟩:∃ m,n%k=m:=⟨_,rfl⟩
 obtain ⟨t,hte⟩:∃ t,n.tmod k=t:=⟨_,rfl⟩
 rw [hm] at ht h1 h2
 rw [hte] at ht hlt
 rw [hm]
 by_cases hneg:t<0
 ·have e:=ht.1 hneg
  refine tr_of_body Try.func37 rfl Try.ntmps37 (by simp) fun um Q _ hQ=>?_
  simp only [argE,Nat.zero_add,Nat.reduceAdd]
  repeat (first | (apply wo_po;apply mo_bin;exact rfl;exact rfl;apply bin_rem;omega;exact hte;exact trivial) | refine wlssT ?_ | refine we_seq ?_ | (refine wR ?_;try simp only [oS]) | refine wo_nil ?_ | refine wM ?_ | refine wA ?_ | refine wadd ?_ | refine wT ?_ | refine we_ret ?_)
  (first | refine or1 Try.func37 Try.results37 hQ rfl ?_ | refine on1 Try.func37 Try.results37 hQ rfl ?_)
  exact ⟨by rw [e],rfl,rfl⟩
 ·have e:=ht.2 hneg
  refine tr_of_body Try.func37 rfl Try.ntmps37 (by simp) fun um Q _ hQ=>?_
  simp only [argE,Nat.zero_add,Nat.reduceAdd]
  repeat (first | (apply wo_po;apply mo_bin;exact rfl;exact rfl;apply bin_rem;omega;exact hte;exact trivial) | refine wlssF ?_ | refine we_seq ?_ | (refine wR ?_;try simp only [oS]) | refine wo_nil ?_ | refine wM ?_ | refine wA ?_ | refine wF ?_ | refine we_ret ?_ | refine we_skip ?_)
  (first | refine or1 Try.func37 Try.results37 hQ rfl ?_ | refine on1 Try.func37 Try.results37 hQ rfl ?_)
  exact ⟨by rw [e],rfl,rfl⟩
end
end Go.Proofs.Ytmkkanmkjfnpdaa
namespace Go.Proofs.Ytmkkanmkjfnpdaa
open Go Go.PB
attribute [local irreducible] Mo Bin Eql Tr Wo Ap Wle
section
structure RowAt (n:Nat) (s:Nat→Nat) (row:List Nat):Prop where
 len:row.length≤n
 put:s 0=(s 1+row.length)%18446744073709551616
 t:s 1<18446744073709551616
 full:∀ i v,row[i]?=some v→s (2+2*((s 1+i)%n))=(s 1+i+1)%18446744073709551616∧s (3+2*((s 1+i)%n))=v
 free:∀ i,row.length≤i→i<n→s (2+2*((s 1+i)%n))=(s 1+i)%18446744073709551616
theorem mod_pow {n k a:Nat} (hn:n=2^k) (hk:k≤10):a%18446744073709551616%n=a%n:=by
 refine Nat.mod_mod_of_dvd a ?_
 rw [hn,show 18446744073709551616=2^64 from rfl]
 exact Nat.pow_dvd_pow 2 (by omega)
theorem mod_inj {n a i j:Nat} (hi:i<n) (hj:j<n) (h:(a+i)%n=(a+j)%n):i=j:=by
 rcases Nat.lt_trichotomy i j with hlt | rfl | hlt
 ·have hd:=Nat.sub_mod_eq_zero_of_mod_eq h.symm
  rw [Nat.mod_eq_of_lt (by omega)] at hd
  omega
 ·rfl
 ·have hd:=Nat.sub_mod_eq_zero_of_mod_eq h
  rw [Nat.mod_eq_of_lt (by omega)] at hd
  omega
end
end Go.Proofs.Ytmkkanmkjfnpdaa
namespace Go.Proofs.Ytmkkanmkjfnpdaa
open Go Go.PB
section
inductive QSt where
 | load
 | seq (t:Nat)
 | cas (t:Nat)
 | val (t:Nat)
 | rel (t v:Nat)
structure QS where
 f:Nat→Nat
 vs:List (Nat × Nat)
 tk:List Nat
structure QT where
 me:Nat
 cs:List (Option Nat)
 pa:List Nat
 ta:List Nat
 st:QSt
def qw:Option Nat→Nat
 | some _=>0
 | none=>1
abbrev qd (n:Nat) (s:QS) (t w:Nat):Nat:=(s.f (2+2*(t%n))+36893488147419103232-t-w)%18446744073709551616
def qPlan (n:Nat) (q:QT):Option ((Int × Int) × (QS→QS × QT)):=match q.cs with
 | []=>none
 | c::rest=>match q.st with
  | .load=>some ((1,(qw c:Nat)),fun s=>(s,{ q with st:=.seq (s.f (qw c)) }))
  | .seq t=>some ((1,(2+2*(t%n):Nat)),fun s=>(s,if 9223372036854775808≤qd n s t (qw c) then { q with cs:=rest,st:=.load } else if 0<qd n s t (qw c) then { q with st:=.load } else { q with st:=.cas t }))
  | .cas t=>some ((5,(qw c:Nat)),fun s=>if s.f (qw c)=t then
     (⟨upd s.f (qw c) ((t+1)%18446744073709551616),(match c with | some v=>s.vs++[(q.me,v)] | none=>s.vs),(match c with | some _=>s.tk | none=>s.tk++[q.me])⟩,{ q with st:=.val t })
    else (s,{ q with st:=.load }))
  | .val t=>(match c with
   | some v=>some ((2,(3+2*(t%n):Nat)),fun s=>({ s with f:=upd s.f (3+2*(t%n)) v },{ q with st:=.rel t v }))
   | none=>some ((1,(3+2*(t%n):Nat)),fun s=>(s,{ q with st:=.rel t (s.f (3+2*(t%n))) })))
  | .rel t v=>(match c with
   | some _=>some ((2,(2+2*(t%n):Nat)),fun s=>({ s with f:=upd s.f (2+2*(t%n)) ((t+1)%18446744073709551616) },{ q with cs:=rest,pa:=q.pa++[v],st:=.load }))
   | none=>some ((2,(2+2*(t%n):Nat)),fun s=>({ s with f:=upd s.f (2+2*(t%n)) ((t+n)%18446744073709551616) },{ q with cs:=rest,ta:=q.ta++[v],st:=.load })))
def Puts (t:Nat) (q:QT):Prop:=∃ v rest,q.cs=some v::rest∧(q.st=.val t∨∃ u,q.st=.rel t u)
def Takes (t:Nat) (q:QT):Prop:=∃ rest,q.cs=none::rest∧(q.st=.val t∨∃ u,q.st=.rel t u)
def QSt.holds:QSt→Bool
 | .val _=>true
 | .rel _ _=>true
 | _=>false
def qrem (q:QT):Nat:=if q.st.holds=true then q.cs.length-1 else q.cs.length
def pendP (q:QT):List Nat:=match q.cs with
 | some v::_=>if q.st.holds=true then [v] else []
 | _=>[]
def pendT (s:QS) (q:QT):List Nat:=match q.cs,q.st with
 | none::_,.val t=>((s.vs[t]?).map (·.2)).toList
 | none::_,.rel t _=>((s.vs[t]?).map (·.2)).toList
 | _,_=>[]
def QTok (n:Nat) (s:QS) (q:QT):Prop:=match q.cs with
 | []=>q.st=.load
 | c::_=>match q.st with
  | .load=>True
  | .seq t=>t≤s.f (qw c)
  | .cas t=>t≤s.f (qw c)∧t+qw c≤s.f (2+2*(t%n))
  | .val t=>match c with
   | some v=>s.vs[t]?=some (q.me,v)∧s.f (2+2*(t%n))=t
   | none=>s.tk[t]?=some q.me∧s.f (2+2*(t%n))=t+1
  | .rel t u=>match c with
   | some v=>u=v∧s.vs[t]?=some (q.me,v)∧s.f (2+2*(t%n))=t∧s.f (3+2*(t%n))=v
   | none=>s.tk[t]?=some q.me∧s.f (2+2*(t%n))=t+1∧(s.vs[t]?).map (·.2)=some u
def putBy (s:QS) (j:Nat):List Nat:=(s.vs.filter fun x=>decide (x.1=j)).map (·.2)
def takenBy (s:QS) (j:Nat):List Nat:=((List.zip s.tk s.vs).filter fun x=>decide (x.1=j)).map (·.2.2)
def SlotA (s:QS) (qs:List QT) (i t:Nat):Prop:=s.f (2+2*i)=t∧s.tk.length≤t∧(t<s.vs.length→∃ (j:Nat) (q:QT),qs[j]?=some q∧Puts t q)
def SlotB (s:QS) (qs:List QT) (i t:Nat):Prop:=s.f (2+2*i)=t+1∧t<s.vs.length∧(s.vs[t]?).map (·.2)=some (s.f (3+2*i))∧(t<s.tk.length→∃ (j:Nat) (q:QT),qs[j]?=some q∧Takes t q)
structure QI (n Bd:Nat) (s:QS) (qs:List QT):Prop where
 p0:s.f 0=s.vs.length
 t0:s.f 1=s.tk.length
 le:s.tk.length≤s.vs.length
 bd:s.vs.length+s.tk.length+sumN (qs.map qrem)≤Bd
 slot:∀ i,i<n→∃ t,t%n=i∧s.vs.length≤t+n∧t<s.tk.length+n∧(SlotA s qs i t∨SlotB s qs i t)
 thr:∀ (j:Nat) (q:QT),qs[j]?=some q→q.me=j∧QTok n s q
 uniq:∀ (j j':Nat) (q q':QT) (t:Nat),qs[j]?=some q→qs[j']?=some q'→(Puts t q∧Puts t q')∨(Takes t q∧Takes t q')→j=j'
 pas:∀ (j:Nat) (q:QT),qs[j]?=some q→putBy s j=q.pa++pendP q
 tas:∀ (j:Nat) (q:QT),qs[j]?=some q→takenBy s j=q.ta++pendT s q
theorem mod_step {n t t':Nat} (h:t%n=t'%n) (h1:t≤t') (h2:t'<t+n):t'=t:=by
 have hn:0<n:=by omega
 have e1:=Nat.div_add_mod t n
 have e2:=Nat.div_add_mod t' n
 have:t'/n=t/n:=by
  rcases Nat.lt_trichotomy (t'/n) (t/n) with hl | he | hl
  ·have:=Nat.mul_le_mul_left n (show t'/n+1≤t/n from hl);rw [Nat.mul_add] at this;omega
  ·exact he
  ·have:=Nat.mul_le_mul_left n (show t/n+1≤t'/n from hl);rw [Nat.mul_add] at this;omega
 rw [this] at e2;omega
theorem mod_succ {n t t':Nat} (hn:2≤n) (h:t%n=t'%n) (e:t'=t+1):False:=by
 have:=mod_step (n:=n) (t:=t) (t':=t') h (by omega) (by omega);omega
theorem set_cases {α:Type} {l:List α} {j k:Nat} {a b:α} (h:(l.set j a)[k]?=some b) (hj:j<l.length):(k=j∧b=a)∨(k≠j∧l[k]?=some b):=by
 by_cases e:k=j
 ·subst e;rw [List.getElem?_set_self hj] at h;cases h;exact .inl ⟨rfl,rfl⟩
 ·rw [List.getElem?_set_ne fun h=>e h.symm] at h;exact .inr ⟨e,h⟩
section
variable {n Bd:Nat} {s:QS} {qs:List QT} {j:Nat} {q q':QT}
theorem puts_holds {t:Nat} (h:Puts t q):q.st.holds=true:=by
 obtain ⟨v,r,_,h | ⟨u,h⟩⟩:=h <;> rw [h] <;> rfl
theorem takes_holds {t:Nat} (h:Takes t q):q.st.holds=true:=by
 obtain ⟨r,_,h | ⟨u,h⟩⟩:=h <;> rw [h] <;> rfl
theorem wit_set {p p':QT→Prop} (hq:qs[j]?=some q) (hp:p q→p' q') (hoth:∀ a,p a→p' a) (h:∃ (j:Nat) (q:QT),qs[j]?=some q∧p q):∃ (k:Nat) (a:QT),(qs.set j q')[k]?=some a∧p' a:=by
 obtain ⟨k,a,h1,h2⟩:=h
 by_cases e:k=j
 ·subst e;rw [hq] at h1;cases h1
  exact ⟨k,q',List.getElem?_set_self (List.getElem?_eq_some_iff.1 hq).1,hp h2⟩
 ·exact ⟨k,a,by rw [List.getElem?_set_ne fun h=>e h.symm];exact h1,hoth a h2⟩
theorem rem_le (hq:qs[j]?=some q) (h:qrem q'≤qrem q):sumN ((qs.set j q').map qrem)≤sumN (qs.map qrem):=by
 have:=sum_set (φ:=qrem) (q':=q') hq;omega
theorem set_old (hq:qs[j]?=some q) (hlt:j<qs.length) (hp:∀ t,Puts t q'↔Puts t q) (ht:∀ t,Takes t q'↔Takes t q) {k:Nat} {a:QT} (hk:(qs.set j q')[k]?=some a):∃ b,qs[k]?=some b∧(∀ t,Puts t a→Puts t b)∧(∀ t,Takes t a→Takes t b):=by
 rcases set_cases hk hlt with ⟨e1,e2⟩ | ⟨_,hk⟩
 ·subst e1;subst e2
  exact ⟨q,hq,fun t=>(hp t).1,fun t=>(ht t).1⟩
 ·exact ⟨a,hk,fun _ x=>x,fun _ x=>x⟩
theorem QI.stay (h:QI n Bd s qs) (hq:qs[j]?=some q) (hme:q'.me=q.me) (hp:∀ t,Puts t q'↔Puts t q) (ht:∀ t,Takes t q'↔Takes t q) (hr:qrem q'≤qrem q) (hok:QTok n s q') (hpa:q'.pa++pendP q'=q.pa++pendP q) (hta:q'.ta++pendT s q'=q.ta++pendT s q):QI n Bd s (qs.set j q'):=by
 have hlt:=(List.getElem?_eq_some_iff.1 hq).1
 refine ⟨h.p0,h.t0,h.le,by have:=rem_le hq hr;have:=h.bd;omega,fun i hi=>?_,fun k a hk=>?_,fun k k' a a' t hk hk' hh=>?_,fun k a hk=>?_,fun k a hk=>?_⟩
 ·obtain ⟨t,h1,h2,h3,h4⟩:=h.slot i hi
  refine ⟨t,h1,h2,h3,h4.imp (fun ⟨a,b,c⟩=>⟨a,b,fun hv=>wit_set hq (fun x=>(hp t).2 x) (fun _ x=>x) (c hv)⟩) fun ⟨a,b,c,d⟩=>⟨a,b,c,fun hv=>wit_set hq (fun x=>(ht t).2 x) (fun _ x=>x) (d hv)⟩⟩
 ·rcases set_cases hk hlt with ⟨rfl,rfl⟩ | ⟨_,hk⟩
  ·exact ⟨hme.trans (h.thr k q hq).1,hok⟩
  ·exact h.thr k a hk
 ·obtain ⟨b,h1,h2,h3⟩:=set_old hq hlt hp ht hk
  obtain ⟨b',h1',h2',h3'⟩:=set_old hq hlt hp ht hk'
  exact h.uniq k k' b b' t h1 h1' (hh.imp (fun x=>⟨h2 _ x.1,h2' _ x.2⟩) fun x=>⟨h3 _ x.1,h3' _ x.2⟩)
 ·rcases set_cases hk hlt with ⟨rfl,rfl⟩ | ⟨_,hk⟩
  ·rw [h.pas k q hq,hpa]
  ·exact h.pas k a hk
 ·rcases set_cases hk hlt with ⟨rfl,rfl⟩ | ⟨_,hk⟩
  ·rw [h.tas k q hq,hta]
  ·exact h.tas k a hk
end
end
section
section
variable {n Bd:Nat} {s s':QS} {qs:List QT} {j:Nat} {q a:QT} {t v u:Nat} {rest:List (Option Nat)}
theorem QI.pos (hn:2≤n):t%n<n:=Nat.mod_lt _ (by omega)
theorem QI.put_slot (h:QI n Bd s qs) (hn:2≤n) (he:s.f 0=t) (hx:t≤s.f (2+2*(t%n))):t<s.tk.length+n∧SlotA s qs (t%n) t:=by
 obtain ⟨u,h1,h2,h3,h4⟩:=h.slot (t%n) (QI.pos hn)
 have hp:=h.p0
 have hl:=h.le
 rcases h4 with h4 | h4
 ·have e:=h4.1
  obtain rfl:u=t:=mod_step (n:=n) h1.symm (by omega) (by omega)
  exact ⟨h3,h4⟩
 ·exact (mod_succ hn h1 (by have:=h4.1;have:=h4.2.1;omega)).elim
theorem QI.take_slot (h:QI n Bd s qs) (hn:2≤n) (he:s.f 1=t) (hx:t+1≤s.f (2+2*(t%n))):s.vs.length≤t+n∧SlotB s qs (t%n) t:=by
 obtain ⟨u,h1,h2,h3,h4⟩:=h.slot (t%n) (QI.pos hn)
 have hp:=h.t0
 rcases h4 with h4 | h4
 ·have e:=h4.1
  have:=mod_step (n:=n) h1.symm (by omega) (by omega)
  omega
 ·have e:=h4.1
  obtain rfl:u=t:=mod_step (n:=n) h1.symm (by omega) (by omega)
  exact ⟨h2,h4⟩
theorem QI.a_at (h:QI n Bd s qs) (hn:2≤n) (hf:s.f (2+2*(t%n))=t):s.vs.length≤t+n∧t<s.tk.length+n∧SlotA s qs (t%n) t:=by
 obtain ⟨u,h1,h2,h3,h4⟩:=h.slot (t%n) (QI.pos hn)
 rcases h4 with h4 | h4
 ·obtain rfl:u=t:=h4.1.symm.trans hf
  exact ⟨h2,h3,h4⟩
 ·exact (mod_succ hn h1 (hf.symm.trans h4.1)).elim
theorem QI.b_at (h:QI n Bd s qs) (hn:2≤n) (hf:s.f (2+2*(t%n))=t+1):s.vs.length≤t+n∧t<s.tk.length+n∧SlotB s qs (t%n) t:=by
 obtain ⟨u,h1,h2,h3,h4⟩:=h.slot (t%n) (QI.pos hn)
 rcases h4 with h4 | h4
 ·exact (mod_succ hn h1.symm (h4.1.symm.trans hf)).elim
 ·obtain rfl:u=t:=by have:=h4.1.symm.trans hf;omega
  exact ⟨h2,h3,h4⟩
theorem QTok.mono (h:QTok n s a) (h0:s.f 0≤s'.f 0) (h1:s.f 1≤s'.f 1) (hi:∀ i,2≤i→s'.f i=s.f i) (hv:∀ (t:Nat) (x:Nat × Nat),s.vs[t]?=some x→s'.vs[t]?=some x) (ht:∀ (t x:Nat),s.tk[t]?=some x→s'.tk[t]?=some x):QTok n s' a:=by
 obtain ⟨me,cs,pa,ta,st⟩:=a
 have hw:∀ c,s.f (qw c)≤s'.f (qw c):=fun c=>by cases c <;> assumption
 cases cs with
 | nil=>exact h
 | cons c r =>
  cases st with
  | load=>trivial
  | seq t=>exact Nat.le_trans (show t≤s.f (qw c) from h) (hw c)
  | cas t=>exact ⟨Nat.le_trans (show t≤s.f (qw c) from h.1) (hw c),by rw [hi _ (by omega)];exact h.2⟩
  | val t =>
   cases c with
   | some v=>exact ⟨hv _ _ h.1,by rw [hi _ (by omega)];exact h.2⟩
   | none=>exact ⟨ht _ _ h.1,by rw [hi _ (by omega)];exact h.2⟩
  | rel t u =>
   cases c with
   | some v=>exact ⟨h.1,hv _ _ h.2.1,by rw [hi _ (by omega)];exact h.2.2.1,by rw [hi _ (by omega)];exact h.2.2.2⟩
   | none =>
    obtain ⟨x,hx,e⟩:=Option.map_eq_some_iff.1 h.2.2
    exact ⟨ht _ _ h.1,by rw [hi _ (by omega)];exact h.2.1,by rw [hv _ _ hx];simp [e]⟩
theorem zip_app {α β:Type}:∀ {l:List α} {m k:List β},l.length≤m.length→List.zip l (m++k)=List.zip l m
 | [],m,k,_=>by simp
 | a::l,[],k,h=>by simp at h
 | a::l,b::m,k,h=>by simp only [List.cons_append,List.zip_cons_cons];rw [zip_app (by simpa using h)]
theorem zip_push {α β:Type} {b:β} {a:α}:∀ {l:List α} {m:List β},m[l.length]?=some b→List.zip (l++[a]) m=List.zip l m++[(a,b)]
 | [],[],h=>by simp at h
 | [],c::m,h=>by simp at h;subst h;simp
 | x::l,[],h=>by simp at h
 | x::l,c::m,h=>by simp only [List.cons_append,List.zip_cons_cons];rw [zip_push (by simpa using h)]
theorem get_push {α:Type} {l:List α} {x y:α} {t:Nat} (h:l[t]?=some y):(l++[x])[t]?=some y:=by
 rw [List.getElem?_append_left (List.getElem?_eq_some_iff.1 h).1];exact h
theorem get_last {α:Type} {l:List α} {x:α} {t:Nat} (h:t=l.length):(l++[x])[t]?=some x:=by subst h;simp
theorem puts_at (h:QTok n s a) (hp:Puts t a):∃ v,s.vs[t]?=some (a.me,v)∧s.f (2+2*(t%n))=t:=by
 obtain ⟨me,cs,pa,ta,st⟩:=a
 obtain ⟨v,r,e,e2 | ⟨u,e2⟩⟩:=hp
 ·simp only at e e2;subst e;subst e2;exact ⟨v,h⟩
 ·simp only at e e2;subst e;subst e2;exact ⟨v,h.2.1,h.2.2.1⟩
theorem takes_at (h:QTok n s a) (hp:Takes t a):s.tk[t]?=some a.me∧s.f (2+2*(t%n))=t+1:=by
 obtain ⟨me,cs,pa,ta,st⟩:=a
 obtain ⟨r,e,e2 | ⟨u,e2⟩⟩:=hp
 ·simp only at e e2;subst e;subst e2;exact h
 ·simp only at e e2;subst e;subst e2;exact ⟨h.1,h.2.1⟩
theorem pendT_mono (h:QTok n s a) (hl:s.tk.length≤s.vs.length) (hv:∀ (t:Nat) (x:Nat × Nat),s.vs[t]?=some x→s'.vs[t]?=some x):pendT s' a=pendT s a:=by
 obtain ⟨me,cs,pa,ta,st⟩:=a
 have key:∀ (t m:Nat),s.tk[t]?=some m→s'.vs[t]?=s.vs[t]?:=fun t m e=>by
  have hlt:=(List.getElem?_eq_some_iff.1 e).1
  have:=List.getElem?_eq_getElem (l:=s.vs) (i:=t) (by omega)
  rw [hv _ _ this,this]
 cases cs with
 | nil=>rfl
 | cons c r =>
  cases c with
  | some v=>rfl
  | none =>
   cases st with
   | val t=>show ((s'.vs[t]?).map _).toList=((s.vs[t]?).map _).toList;rw [key t me h.1]
   | rel t u=>show ((s'.vs[t]?).map _).toList=((s.vs[t]?).map _).toList;rw [key t me h.1]
   | _=>rfl
theorem not_puts (h:q.st.holds=false) {t:Nat}:¬ Puts t q:=fun x=>by rw [puts_holds x] at h;cases h
theorem not_takes (h:q.st.holds=false) {t:Nat}:¬ Takes t q:=fun x=>by rw [takes_holds x] at h;cases h
theorem QI.casP (h:QI n Bd s qs) (hn:2≤n) (hB:Bd<4611686018427387904) (hq:qs[j]?=some q) (hcs:q.cs=some v::rest) (hst:q.st=.cas t) (he:s.f 0=t) :
  QI n Bd ⟨upd s.f 0 ((t+1)%18446744073709551616),s.vs++[(q.me,v)],s.tk⟩ (qs.set j { q with st:=.val t }):=by
 have hlt:=(List.getElem?_eq_some_iff.1 hq).1
 obtain ⟨hme,hok⟩:=h.thr j q hq
 have hx:t≤s.f (2+2*(t%n)):=by
  unfold QTok at hok;rw [hcs] at hok;simp only [hst] at hok;exact hok.2
 obtain ⟨h3,hA⟩:=h.put_slot hn he hx
 have hp:=h.p0
 have hbd:=h.bd
 have hm:(t+1)%18446744073709551616=t+1:=Nat.mod_eq_of_lt (by omega)
 have hnh:q.st.holds=false:=by rw [hst];rfl
 have hup:∀ i,i≠0→upd s.f 0 ((t+1)%18446744073709551616) i=s.f i:=fun i hi=>upd_other hi
 have hvs:∀ (t':Nat) (x:Nat × Nat),s.vs[t']?=some x→(s.vs++[(q.me,v)])[t']?=some x:=fun t' x e=>get_push e
 have hself:s.f 0≤upd s.f 0 ((t+1)%18446744073709551616) 0:=by
  have:=upd_same (m:=s.f) (w:=0) (n:=(t+1)%18446744073709551616)
  omega
 have hmono:∀ a,QTok n s a→QTok n ⟨upd s.f 0 ((t+1)%18446744073709551616),s.vs++[(q.me,v)],s.tk⟩ a:=fun a ha =>
  ha.mono hself (Nat.le_of_eq (hup 1 (by omega)).symm) (fun i hi=>hup i (by omega)) hvs (fun _ _ x=>x)
 refine ⟨?_,?_,?_,?_,fun i hi=>?_,fun k a hk=>?_,fun k k' a a' t' hk hk' hh=>?_,fun k a hk=>?_,fun k a hk=>?_⟩
 ·have:=upd_same (m:=s.f) (w:=0) (n:=(t+1)%18446744073709551616)
  simp only [List.length_append,List.length_singleton]
  omega
 ·exact (hup 1 (by omega)).trans h.t0
 ·have:=h.le;simp;omega
 ·have h1:=sum_set (φ:=qrem) (q':=({ q with st:=.val t }:QT)) hq
  have h2:qrem q=rest.length+1:=by unfold qrem;rw [hnh,hcs];simp
  have h4:qrem ({ q with st:=.val t }:QT)=rest.length:=by unfold qrem;simp [QSt.holds,hcs]
  simp only [List.length_append,List.length_singleton]
  omega
 ·obtain ⟨u,g1,g2,g3,g4⟩:=h.slot i hi
  by_cases e:i=t%n
  ·subst e
   refine ⟨t,rfl,by simp;omega,h3,.inl ⟨(hup _ (by omega)).trans hA.1,hA.2.1,fun _=>⟨j,_,List.getElem?_set_self hlt,v,rest,hcs,.inl rfl⟩⟩⟩
  ·have hne:u≠t:=fun e2=>e (by rw [← g1,e2])
   have hne2:s.vs.length≠u+n:=by
    intro e2
    have hu:t=u+n:=by omega
    refine e ?_
    rw [← g1,hu]
    simp
   refine ⟨u,g1,by simp;omega,g3,g4.imp (fun ⟨b1,b2,b3⟩=>⟨(hup _ (by omega)).trans b1,b2,fun hv=>wit_set hq (fun x=>(not_puts hnh x).elim) (fun _ x=>x) (b3 (by simp at hv;omega))⟩) fun ⟨b1,b2,b3,b4⟩=>⟨(hup _ (by omega)).trans b1,by simp;omega,?_,fun hv=>wit_set hq (fun x=>(not_takes hnh x).elim) (fun _ x=>x) (b4 hv)⟩⟩
   show Option.map _ ((s.vs++[(q.me,v)])[u]?)=some (upd s.f 0 _ _)
   rw [hup _ (by omega),List.getElem?_append_left b2];exact b3
 ·rcases set_cases hk hlt with ⟨e1,e2⟩ | ⟨_,hk⟩
  ·subst e1;subst e2
   refine ⟨hme,?_⟩
   show QTok n _ ⟨q.me,q.cs,q.pa,q.ta,.val t⟩
   rw [hcs]
   exact ⟨get_last (by omega),(hup _ (by omega)).trans hA.1⟩
  ·exact ⟨(h.thr k a hk).1,hmono a (h.thr k a hk).2⟩
 ·have nobody:∀ k a,qs[k]?=some a→¬ Puts t a:=fun k a hk hp'=>by
   obtain ⟨v',e,_⟩:=puts_at (h.thr k a hk).2 hp'
   have:=(List.getElem?_eq_some_iff.1 e).1;omega
  have noT:∀ t',¬ Takes t' ({ q with st:=.val t }:QT):=fun t' ⟨r,e,_⟩=>by simp only at e;rw [hcs] at e;cases e
  have onlyP:∀ t',Puts t' ({ q with st:=.val t }:QT)→t'=t:=fun t' ⟨_,_,_,e⟩=>by
   rcases e with e | ⟨_,e⟩
   ·simp only at e;injection e with e;exact e.symm
   ·simp only at e;cases e
  rcases set_cases hk hlt with ⟨e1,e2⟩ | ⟨_,hk2⟩ <;> rcases set_cases hk' hlt with ⟨f1,f2⟩ | ⟨_,hk2'⟩
  ·rw [e1,f1]
  ·subst e2
   rcases hh with ⟨x,y⟩ | ⟨x,_⟩
   ·have:=onlyP _ x;subst this;exact (nobody _ _ hk2' y).elim
   ·exact (noT _ x).elim
  ·subst f2
   rcases hh with ⟨x,y⟩ | ⟨_,y⟩
   ·have:=onlyP _ y;subst this;exact (nobody _ _ hk2 x).elim
   ·exact (noT _ y).elim
  ·exact h.uniq k k' a a' t' hk2 hk2' hh
 ·have hby:∀ m,putBy ⟨upd s.f 0 ((t+1)%18446744073709551616),s.vs++[(q.me,v)],s.tk⟩ m=putBy s m++if q.me=m then [v] else []:=fun m=>by
   unfold putBy;simp only [List.filter_append,List.map_append]
   by_cases e:q.me=m <;> simp [e]
  rw [hby]
  rcases set_cases hk hlt with ⟨e1,e2⟩ | ⟨hkj,hk⟩
  ·subst e1;subst e2
   rw [if_pos hme,h.pas k q hq]
   have e1:pendP q=[]:=by unfold pendP;rw [hcs];simp [hnh]
   have e2:pendP ({ q with st:=.val t }:QT)=[v]:=by unfold pendP;simp only [hcs];rfl
   rw [e1,e2];simp
  ·rw [if_neg fun e=>hkj (by rw [← e,hme]),List.append_nil];exact h.pas k a hk
 ·have hby:∀ m,takenBy ⟨upd s.f 0 ((t+1)%18446744073709551616),s.vs++[(q.me,v)],s.tk⟩ m=takenBy s m:=fun m=>by
   unfold takenBy;simp only [zip_app h.le]
  rw [hby]
  rcases set_cases hk hlt with ⟨e1,e2⟩ | ⟨_,hk⟩
  ·subst e1;subst e2
   rw [h.tas k q hq]
   have e1:pendT s q=[]:=by unfold pendT;rw [hcs]
   have e2:pendT ⟨upd s.f 0 ((t+1)%18446744073709551616),s.vs++[(q.me,v)],s.tk⟩ ({ q with st:=.val t }:QT)=[]:=by unfold pendT;simp only [hcs]
   rw [e1,e2]
  ·exact (h.tas k a hk).trans (congrArg (a.ta++·) (pendT_mono (h.thr k a hk).2 h.le hvs).symm)
end
end
section
section
variable {n Bd:Nat} {s s':QS} {qs:List QT} {j:Nat} {q q' a:QT} {t v u:Nat} {rest:List (Option Nat)}
theorem QI.casT (h:QI n Bd s qs) (hn:2≤n) (hB:Bd<4611686018427387904) (hq:qs[j]?=some q) (hcs:q.cs=none::rest) (hst:q.st=.cas t) (he:s.f 1=t) :
  QI n Bd ⟨upd s.f 1 ((t+1)%18446744073709551616),s.vs,s.tk++[q.me]⟩ (qs.set j { q with st:=.val t }):=by
 have hlt:=(List.getElem?_eq_some_iff.1 hq).1
 obtain ⟨hme,hok⟩:=h.thr j q hq
 have hx:t+1≤s.f (2+2*(t%n)):=by
  unfold QTok at hok;rw [hcs] at hok;simp only [hst] at hok;exact hok.2
 obtain ⟨h3,hB'⟩:=h.take_slot hn he hx
 have hp:=h.t0
 have hbd:=h.bd
 have hle:=h.le
 have hm:(t+1)%18446744073709551616=t+1:=Nat.mod_eq_of_lt (by omega)
 have hnh:q.st.holds=false:=by rw [hst];rfl
 have hup:∀ i,i≠1→upd s.f 1 ((t+1)%18446744073709551616) i=s.f i:=fun i hi=>upd_other hi
 have hself:=upd_same (m:=s.f) (w:=1) (n:=(t+1)%18446744073709551616)
 have htk:∀ (t' x:Nat),s.tk[t']?=some x→(s.tk++[q.me])[t']?=some x:=fun t' x e=>get_push e
 have hmono:∀ a,QTok n s a→QTok n ⟨upd s.f 1 ((t+1)%18446744073709551616),s.vs,s.tk++[q.me]⟩ a:=fun a ha =>
  ha.mono (Nat.le_of_eq (hup 0 (by omega)).symm) (by show s.f 1≤upd s.f 1 ((t+1)%18446744073709551616) 1;omega) (fun i hi=>hup i (by omega)) (fun _ _ x=>x) htk
 obtain ⟨x,hx1,hx2⟩:=Option.map_eq_some_iff.1 hB'.2.2.1
 refine ⟨(hup 0 (by omega)).trans h.p0,?_,?_,?_,fun i hi=>?_,fun k a hk=>?_,fun k k' a a' t' hk hk' hh=>?_,fun k a hk=>?_,fun k a hk=>?_⟩
 ·simp only [List.length_append,List.length_singleton]
  omega
 ·have:=hB'.2.1
  simp only [List.length_append,List.length_singleton]
  omega
 ·have h1:=sum_set (φ:=qrem) (q':=({ q with st:=.val t }:QT)) hq
  have h2:qrem q=rest.length+1:=by unfold qrem;rw [hnh,hcs];simp
  have h4:qrem ({ q with st:=.val t }:QT)=rest.length:=by unfold qrem;simp [QSt.holds,hcs]
  simp only [List.length_append,List.length_singleton]
  omega
 ·obtain ⟨u,g1,g2,g3,g4⟩:=h.slot i hi
  by_cases e:i=t%n
  ·subst e
   refine ⟨t,rfl,h3,by simp;omega,.inr ⟨(hup _ (by omega)).trans hB'.1,hB'.2.1,?_,fun _=>⟨j,_,List.getElem?_set_self hlt,rest,hcs,.inl rfl⟩⟩⟩
   show _=some (upd s.f 1 _ _)
   rw [hup _ (by omega)];exact hB'.2.2.1
  ·have hne:u≠t:=fun e2=>e (by rw [← g1,e2])
   refine ⟨u,g1,g2,by simp;omega,g4.imp (fun ⟨b1,b2,b3⟩=>⟨(hup _ (by omega)).trans b1,by simp;omega,fun hv=>wit_set hq (fun x=>(not_puts hnh x).elim) (fun _ x=>x) (b3 hv)⟩) fun ⟨b1,b2,b3,b4⟩=>⟨(hup _ (by omega)).trans b1,b2,?_,fun hv=>wit_set hq (fun x=>(not_takes hnh x).elim) (fun _ x=>x) (b4 (by simp at hv;omega))⟩⟩
   show _=some (upd s.f 1 _ _)
   rw [hup _ (by omega)];exact b3
 ·rcases set_cases hk hlt with ⟨e1,e2⟩ | ⟨_,hk⟩
  ·subst e1;subst e2
   refine ⟨hme,?_⟩
   show QTok n _ ⟨q.me,q.cs,q.pa,q.ta,.val t⟩
   rw [hcs]
   exact ⟨get_last (by omega),(hup _ (by omega)).trans hB'.1⟩
  ·exact ⟨(h.thr k a hk).1,hmono a (h.thr k a hk).2⟩
 ·have nobody:∀ k a,qs[k]?=some a→¬ Takes t a:=fun k a hk hp'=>by
   have e:=(takes_at (h.thr k a hk).2 hp').1
   have:=(List.getElem?_eq_some_iff.1 e).1;omega
  have noP:∀ t',¬ Puts t' ({ q with st:=.val t }:QT):=fun t' ⟨_,r,e,_⟩=>by simp only at e;rw [hcs] at e;cases e
  have onlyT:∀ t',Takes t' ({ q with st:=.val t }:QT)→t'=t:=fun t' ⟨_,_,e⟩=>by
   rcases e with e | ⟨_,e⟩
   ·simp only at e;injection e with e;exact e.symm
   ·simp only at e;cases e
  rcases set_cases hk hlt with ⟨e1,e2⟩ | ⟨_,hk2⟩ <;> rcases set_cases hk' hlt with ⟨f1,f2⟩ | ⟨_,hk2'⟩
  ·rw [e1,f1]
  ·subst e2
   rcases hh with ⟨x,_⟩ | ⟨x,y⟩
   ·exact (noP _ x).elim
   ·have:=onlyT _ x;subst this;exact (nobody _ _ hk2' y).elim
  ·subst f2
   rcases hh with ⟨_,y⟩ | ⟨x,y⟩
   ·exact (noP _ y).elim
   ·have:=onlyT _ y;subst this;exact (nobody _ _ hk2 x).elim
  ·exact h.uniq k k' a a' t' hk2 hk2' hh
 ·rcases set_cases hk hlt with ⟨e1,e2⟩ | ⟨_,hk⟩
  ·subst e1;subst e2
   have e1:pendP q=[]:=by unfold pendP;rw [hcs]
   have e2:pendP ({ q with st:=.val t }:QT)=[]:=by unfold pendP;simp only [hcs]
   have:=h.pas k q hq
   rw [e1] at this
   show putBy s k=q.pa++pendP ({ q with st:=.val t }:QT)
   rw [e2];exact this
  ·exact h.pas k a hk
 ·have hby:∀ m,takenBy ⟨upd s.f 1 ((t+1)%18446744073709551616),s.vs,s.tk++[q.me]⟩ m=takenBy s m++if q.me=m then [x.2] else []:=fun m=>by
   unfold takenBy
   simp only
   rw [zip_push (b:=x) (by rw [← hp,he];exact hx1),List.filter_append,List.map_append]
   by_cases e:q.me=m <;> simp [e]
  rw [hby]
  rcases set_cases hk hlt with ⟨e1,e2⟩ | ⟨hkj,hk⟩
  ·subst e1;subst e2
   rw [if_pos hme,h.tas k q hq]
   have e1:pendT s q=[]:=by unfold pendT;rw [hcs];simp only [hst]
   have e2:pendT ⟨upd s.f 1 ((t+1)%18446744073709551616),s.vs,s.tk++[q.me]⟩ ({ q with st:=.val t }:QT)=[x.2]:=by unfold pendT;simp only [hcs,hx1];rfl
   rw [e1,e2];simp
  ·rw [if_neg fun e=>hkj (by rw [← e,hme]),List.append_nil]
   exact (h.tas k a hk).trans (congrArg (a.ta++·) (pendT_mono (h.thr k a hk).2 h.le (fun _ _ x=>x)).symm)
theorem QI.lay (h:QI n Bd s qs) (hn:2≤n) (hq:qs[j]?=some q) {w x:Nat} (hw:w=2+2*(t%n)∨w=3+2*(t%n)) (hx:w=2+2*(t%n)→s.f w≤x)
  (hslot:∃ u,u%n=t%n∧s.vs.length≤u+n∧u<s.tk.length+n∧(SlotA ⟨upd s.f w x,s.vs,s.tk⟩ (qs.set j q') (t%n) u∨SlotB ⟨upd s.f w x,s.vs,s.tk⟩ (qs.set j q') (t%n) u))
  (hown:∀ t',Puts t' q∨Takes t' q→t'=t) (hoth:∀ (k:Nat) a,k≠j→qs[k]?=some a→∀ t',Puts t' a∨Takes t' a→t'%n≠t%n)
  (hme:q'.me=q.me) (hp:∀ t',Puts t' q'→Puts t' q) (ht:∀ t',Takes t' q'→Takes t' q) (hr:qrem q'≤qrem q) (hok:QTok n ⟨upd s.f w x,s.vs,s.tk⟩ q') (hpa:q'.pa++pendP q'=q.pa++pendP q) (hta:q'.ta++pendT s q'=q.ta++pendT s q) :
  QI n Bd ⟨upd s.f w x,s.vs,s.tk⟩ (qs.set j q'):=by
 have hlt:=(List.getElem?_eq_some_iff.1 hq).1
 have h0:upd s.f w x 0=s.f 0:=upd_other (by omega)
 have h1:upd s.f w x 1=s.f 1:=upd_other (by omega)
 have hup:∀ i,i≠t%n→upd s.f w x (2+2*i)=s.f (2+2*i)∧upd s.f w x (3+2*i)=s.f (3+2*i):=fun i hi=>⟨upd_other (by omega),upd_other (by omega)⟩
 have hge:∀ i,s.f (2+2*i)≤upd s.f w x (2+2*i):=fun i=>by
  by_cases e:2+2*i=w
  ·rw [e,upd_same];exact hx (by omega)
  ·rw [upd_other e];exact Nat.le_refl _
 refine ⟨h0.trans h.p0,h1.trans h.t0,h.le,by have:=rem_le hq hr;have:=h.bd;show s.vs.length+s.tk.length+_≤Bd;omega,fun i hi=>?_,fun k a hk=>?_,fun k k' a a' t' hk hk' hh=>?_,fun k a hk=>?_,fun k a hk=>?_⟩
 ·by_cases e:i=t%n
  ·rw [e];exact hslot
  ·obtain ⟨u,g1,g2,g3,g4⟩:=h.slot i hi
   have hne:u≠t:=fun e2=>e (by rw [← g1,e2])
   refine ⟨u,g1,g2,g3,g4.imp (fun ⟨b1,b2,b3⟩=>⟨(hup i e).1.trans b1,b2,fun hv=>wit_set hq (fun y=>(hne (hown _ (.inl y))).elim) (fun _ y=>y) (b3 hv)⟩) fun ⟨b1,b2,b3,b4⟩=>⟨(hup i e).1.trans b1,b2,?_,fun hv=>wit_set hq (fun y=>(hne (hown _ (.inr y))).elim) (fun _ y=>y) (b4 hv)⟩⟩
   show _=some (upd s.f w x _)
   rw [(hup i e).2];exact b3
 ·rcases set_cases hk hlt with ⟨e1,e2⟩ | ⟨hkj,hk⟩
  ·subst e1;subst e2
   exact ⟨hme.trans (h.thr k q hq).1,hok⟩
  ·obtain ⟨g1,g2⟩:=h.thr k a hk
   refine ⟨g1,?_⟩
   have ho:=hoth k a hkj hk
   obtain ⟨me,cs,pa,ta,st⟩:=a
   cases cs with
   | nil=>exact g2
   | cons c r =>
    have hw':upd s.f w x (qw c)=s.f (qw c):=by cases c <;> assumption
    cases st with
    | load=>trivial
    | seq t'=>show t'≤upd s.f w x (qw c);rw [hw'];exact g2
    | cas t'=>exact ⟨by show t'≤upd s.f w x (qw c);rw [hw'];exact g2.1,Nat.le_trans g2.2 (hge _)⟩
    | val t' =>
     cases c with
     | some v'=>exact ⟨g2.1,(hup _ (ho t' (.inl ⟨v',r,rfl,.inl rfl⟩))).1.trans g2.2⟩
     | none=>exact ⟨g2.1,(hup _ (ho t' (.inr ⟨r,rfl,.inl rfl⟩))).1.trans g2.2⟩
    | rel t' u' =>
     cases c with
     | some v' =>
      have e:=hup _ (ho t' (.inl ⟨v',r,rfl,.inr ⟨u',rfl⟩⟩))
      exact ⟨g2.1,g2.2.1,e.1.trans g2.2.2.1,e.2.trans g2.2.2.2⟩
     | none=>exact ⟨g2.1,(hup _ (ho t' (.inr ⟨r,rfl,.inr ⟨u',rfl⟩⟩))).1.trans g2.2.1,g2.2.2⟩
 ·have key:∀ {k:Nat} {a:QT},(qs.set j q')[k]?=some a→∃ b,qs[k]?=some b∧(∀ t,Puts t a→Puts t b)∧(∀ t,Takes t a→Takes t b):=by
   intro k a hk
   rcases set_cases hk hlt with ⟨e1,e2⟩ | ⟨_,hk⟩
   ·subst e1;subst e2;exact ⟨q,hq,hp,ht⟩
   ·exact ⟨a,hk,fun _ y=>y,fun _ y=>y⟩
  obtain ⟨b,b1,b2,b3⟩:=key hk
  obtain ⟨b',b1',b2',b3'⟩:=key hk'
  exact h.uniq k k' b b' t' b1 b1' (hh.imp (fun y=>⟨b2 _ y.1,b2' _ y.2⟩) fun y=>⟨b3 _ y.1,b3' _ y.2⟩)
 ·show putBy s k=_
  rcases set_cases hk hlt with ⟨e1,e2⟩ | ⟨_,hk⟩
  ·subst e1;subst e2;rw [h.pas k q hq,hpa]
  ·exact h.pas k a hk
 ·show takenBy s k=a.ta++pendT s a
  rcases set_cases hk hlt with ⟨e1,e2⟩ | ⟨_,hk⟩
  ·subst e1;subst e2;rw [h.tas k q hq,hta]
  ·exact h.tas k a hk
theorem puts_only {t'} (hcs:q.cs=some v::rest) (hst:q.st=.val t∨∃ u,q.st=.rel t u) (h:Puts t' q∨Takes t' q):t'=t:=by
 rcases h with ⟨_,_,_,e⟩ | ⟨_,e,_⟩
 ·rcases hst with h | ⟨_,h⟩ <;> rw [h] at e <;> rcases e with e | ⟨_,e⟩ <;> first | cases e;rfl | cases e
 ·rw [hcs] at e;cases e
theorem takes_only {t'} (hcs:q.cs=none::rest) (hst:q.st=.val t∨∃ u,q.st=.rel t u) (h:Puts t' q∨Takes t' q):t'=t:=by
 rcases h with ⟨_,_,e,_⟩ | ⟨_,_,e⟩
 ·rw [hcs] at e;cases e
 ·rcases hst with h | ⟨_,h⟩ <;> rw [h] at e <;> rcases e with e | ⟨_,e⟩ <;> first | cases e;rfl | cases e
theorem QI.alone_put (h:QI n Bd s qs) (hn:2≤n) (hq:qs[j]?=some q) (hp:Puts t q) (hf:s.f (2+2*(t%n))=t):∀ (k:Nat) a,k≠j→qs[k]?=some a→∀ t',Puts t' a∨Takes t' a→t'%n≠t%n:=by
 intro k a hkj hk t' hh e
 obtain ⟨_,ha⟩:=h.thr k a hk
 rcases hh with hh | hh
 ·obtain ⟨_,_,e2⟩:=puts_at ha hh
  rw [e,hf] at e2;subst e2
  exact hkj (h.uniq k j a q t hk hq (.inl ⟨hh,hp⟩))
 ·obtain ⟨_,e2⟩:=takes_at ha hh
  rw [e,hf] at e2
  exact mod_succ hn e e2
theorem QI.alone_take (h:QI n Bd s qs) (hn:2≤n) (hq:qs[j]?=some q) (hp:Takes t q) (hf:s.f (2+2*(t%n))=t+1):∀ (k:Nat) a,k≠j→qs[k]?=some a→∀ t',Puts t' a∨Takes t' a→t'%n≠t%n:=by
 intro k a hkj hk t' hh e
 obtain ⟨_,ha⟩:=h.thr k a hk
 rcases hh with hh | hh
 ·obtain ⟨_,_,e2⟩:=puts_at ha hh
  rw [e,hf] at e2
  exact mod_succ hn e.symm e2.symm
 ·obtain ⟨_,e2⟩:=takes_at ha hh
  rw [e,hf] at e2
  obtain rfl:t'=t:=by omega
  exact hkj (h.uniq k j a q t' hk hq (.inr ⟨hh,hp⟩))
theorem QI.valP (h:QI n Bd s qs) (hn:2≤n) (hq:qs[j]?=some q) (hcs:q.cs=some v::rest) (hst:q.st=.val t) :
  QI n Bd ⟨upd s.f (3+2*(t%n)) v,s.vs,s.tk⟩ (qs.set j { q with st:=.rel t v }):=by
 have hlt:=(List.getElem?_eq_some_iff.1 hq).1
 obtain ⟨hme,hok⟩:=h.thr j q hq
 have hpq:Puts t q:=⟨v,rest,hcs,.inl hst⟩
 have hok':s.vs[t]?=some (q.me,v)∧s.f (2+2*(t%n))=t:=by unfold QTok at hok;rw [hcs] at hok;simp only [hst] at hok;exact hok
 obtain ⟨h1,h2,hA⟩:=h.a_at hn hok'.2
 have hsq:upd s.f (3+2*(t%n)) v (2+2*(t%n))=s.f (2+2*(t%n)):=upd_other (by omega)
 have hP':Puts t ({ q with st:=.rel t v }:QT):=⟨v,rest,hcs,.inr ⟨v,rfl⟩⟩
 refine h.lay hn hq (.inr rfl) (fun e=>by omega) ⟨t,rfl,h1,h2,.inl ⟨hsq.trans hA.1,hA.2.1,fun hv=>wit_set hq (fun _=>hP') (fun _ y=>y) (hA.2.2 hv)⟩⟩ (fun t'=>puts_only hcs (.inl hst)) (h.alone_put hn hq hpq hok'.2) rfl (fun t' hp=>?_) (fun t' ht=>?_) ?_ ?_ ?_ ?_
 ·have:=puts_only (q:=({ q with st:=.rel t v }:QT)) hcs (.inr ⟨v,rfl⟩) (.inl hp);subst this;exact hpq
 ·obtain ⟨_,e,_⟩:=ht;simp only at e;rw [hcs] at e;cases e
 ·unfold qrem;simp [hst,QSt.holds]
 ·show QTok n _ ⟨q.me,q.cs,q.pa,q.ta,.rel t v⟩
  rw [hcs]
  exact ⟨rfl,hok'.1,hsq.trans hok'.2,upd_same⟩
 ·unfold pendP;simp [hcs,hst,QSt.holds]
 ·unfold pendT;simp [hcs]
theorem QI.relP (h:QI n Bd s qs) (hn:2≤n) (hB:Bd<4611686018427387904) (hq:qs[j]?=some q) (hcs:q.cs=some v::rest) (hst:q.st=.rel t u) :
  QI n Bd ⟨upd s.f (2+2*(t%n)) ((t+1)%18446744073709551616),s.vs,s.tk⟩ (qs.set j { q with cs:=rest,pa:=q.pa++[u],st:=.load }):=by
 have hlt:=(List.getElem?_eq_some_iff.1 hq).1
 obtain ⟨hme,hok⟩:=h.thr j q hq
 have hpq:Puts t q:=⟨v,rest,hcs,.inr ⟨u,hst⟩⟩
 obtain ⟨rfl,k1,k2,k3⟩:u=v∧s.vs[t]?=some (q.me,v)∧s.f (2+2*(t%n))=t∧s.f (3+2*(t%n))=v:=by unfold QTok at hok;rw [hcs] at hok;simp only [hst] at hok;exact hok
 obtain ⟨h1,h2,hA⟩:=h.a_at hn k2
 have htl:=(List.getElem?_eq_some_iff.1 k1).1
 have hm:(t+1)%18446744073709551616=t+1:=Nat.mod_eq_of_lt (by have:=h.bd;omega)
 rw [hm]
 have hsq:upd s.f (2+2*(t%n)) (t+1) (3+2*(t%n))=s.f (3+2*(t%n)):=upd_other (by omega)
 have hnh:({ q with cs:=rest,pa:=q.pa++[u],st:=.load }:QT).st.holds=false:=rfl
 refine h.lay hn hq (.inl rfl) (fun _=>by omega) ⟨t,rfl,h1,h2,.inr ⟨upd_same,htl,?_,fun hv=>by have:=hA.2.1;replace hv:t<s.tk.length:=hv;omega⟩⟩ (fun t'=>puts_only hcs (.inr ⟨u,hst⟩)) (h.alone_put hn hq hpq k2) rfl (fun t' hp=>(not_puts hnh hp).elim) (fun t' ht=>(not_takes hnh ht).elim) ?_ ?_ ?_ ?_
 ·show _=some (upd s.f _ _ _)
  rw [hsq,k1,k3];rfl
 ·unfold qrem;simp [hst,hcs,QSt.holds]
 ·show QTok n _ ⟨q.me,rest,q.pa++[u],q.ta,.load⟩
  cases rest <;> first | rfl | trivial
 ·have e1:pendP ({ q with cs:=rest,pa:=q.pa++[u],st:=.load }:QT)=[]:=by unfold pendP;cases rest with
   | nil=>rfl
   | cons c r=>cases c <;> rfl
  have e2:pendP q=[u]:=by unfold pendP;simp [hcs,hst,QSt.holds]
  rw [e1,e2];simp
 ·have e1:pendT s ({ q with cs:=rest,pa:=q.pa++[u],st:=.load }:QT)=[]:=by unfold pendT;cases rest with
   | nil=>rfl
   | cons c r=>cases c <;> rfl
  have e2:pendT s q=[]:=by unfold pendT;simp [hcs]
  rw [e1,e2]
theorem QI.relT (h:QI n Bd s qs) (hn:2≤n) (hn2:n≤1024) (hB:Bd<4611686018427387904) (hq:qs[j]?=some q) (hcs:q.cs=none::rest) (hst:q.st=.rel t u) :
  QI n Bd ⟨upd s.f (2+2*(t%n)) ((t+n)%18446744073709551616),s.vs,s.tk⟩ (qs.set j { q with cs:=rest,ta:=q.ta++[u],st:=.load }):=by
 have hlt:=(List.getElem?_eq_some_iff.1 hq).1
 obtain ⟨hme,hok⟩:=h.thr j q hq
 have hpq:Takes t q:=⟨rest,hcs,.inr ⟨u,hst⟩⟩
 obtain ⟨k1,k2,k3⟩:s.tk[t]?=some q.me∧s.f (2+2*(t%n))=t+1∧(s.vs[t]?).map (·.2)=some u:=by unfold QTok at hok;rw [hcs] at hok;simp only [hst] at hok;exact hok
 obtain ⟨h1,h2,hB'⟩:=h.b_at hn k2
 have htl:=(List.getElem?_eq_some_iff.1 k1).1
 have hle:=h.le
 have hm:(t+n)%18446744073709551616=t+n:=Nat.mod_eq_of_lt (by have:=h.bd;omega)
 rw [hm]
 have hnh:({ q with cs:=rest,ta:=q.ta++[u],st:=.load }:QT).st.holds=false:=rfl
 refine h.lay hn hq (.inl rfl) (fun _=>by omega) ⟨t+n,by simp,by omega,by omega,.inl ⟨upd_same,by show s.tk.length≤t+n;omega,fun hv=>by replace hv:t+n<s.vs.length:=hv;omega⟩⟩ (fun t'=>takes_only hcs (.inr ⟨u,hst⟩)) (h.alone_take hn hq hpq k2) rfl (fun t' hp=>(not_puts hnh hp).elim) (fun t' ht=>(not_takes hnh ht).elim) ?_ ?_ ?_ ?_
 ·unfold qrem;simp [hst,hcs,QSt.holds]
 ·show QTok n _ ⟨q.me,rest,q.pa,q.ta++[u],.load⟩
  cases rest <;> first | rfl | trivial
 ·have e1:pendP ({ q with cs:=rest,ta:=q.ta++[u],st:=.load }:QT)=[]:=by unfold pendP;cases rest with
   | nil=>rfl
   | cons c r=>cases c <;> rfl
  have e2:pendP q=[]:=by unfold pendP;simp [hcs]
  rw [e1,e2]
 ·have e1:pendT s ({ q with cs:=rest,ta:=q.ta++[u],st:=.load }:QT)=[]:=by unfold pendT;cases rest with
   | nil=>rfl
   | cons c r=>cases c <;> rfl
  have e2:pendT s q=[u]:=by unfold pendT;simp only [hcs,hst,k3];rfl
  rw [e1,e2];simp
end
end
section
def qwt (s:QS) (q:QT):Nat:=match q.cs with
 | []=>0
 | c::_=>match q.st with
  | .load=>5
  | .seq t=>if t=s.f (qw c) then 4 else 7
  | .cas t=>if t=s.f (qw c) then 3 else 6
  | .val _=>2
  | .rel _ _=>1
def qpsi (m:Nat) (s:QS) (q:QT):Nat:=8*q.cs.length+qwt s q+4*m*qrem q
def qphi (s:QS) (qs:List QT):Nat:=sumN (qs.map (qpsi qs.length s))
section
variable {n Bd:Nat} {s s':QS} {qs:List QT} {j:Nat} {q q' a:QT} {t v u:Nat} {rest:List (Option Nat)}
theorem pendP_none (h:q.st.holds=false):pendP q=[]:=by
 obtain ⟨me,cs,pa,ta,st⟩:=q
 cases cs with
 | nil=>rfl
 | cons c r =>
  cases c with
  | none=>rfl
  | some v=>show (if st.holds=true then [v] else [])=[];rw [show st.holds=false from h];rfl
theorem pendT_none (h:q.st.holds=false):pendT s q=[]:=by
 obtain ⟨me,cs,pa,ta,st⟩:=q
 cases cs with
 | nil=>rfl
 | cons c r=>cases c <;> cases st <;> first | rfl | cases h
theorem QI.stay0 (h:QI n Bd s qs) (hq:qs[j]?=some q) (h0:q.st.holds=false) (h1:q'.st.holds=false) (hme:q'.me=q.me) (hpa:q'.pa=q.pa) (hta:q'.ta=q.ta) (hr:qrem q'≤qrem q) (hok:QTok n s q'):QI n Bd s (qs.set j q') :=
 h.stay hq hme (fun t=>⟨fun x=>(not_puts h1 x).elim,fun x=>(not_puts h0 x).elim⟩) (fun t=>⟨fun x=>(not_takes h1 x).elim,fun x=>(not_takes h0 x).elim⟩) hr hok (by rw [pendP_none h0,pendP_none h1,hpa]) (by rw [pendT_none h0,pendT_none h1,hta])
theorem QI.xb (h:QI n Bd s qs) {i:Nat} (hi:i<n):s.f (2+2*i)≤Bd+n:=by
 obtain ⟨u,h1,h2,h3,h4⟩:=h.slot i hi
 have:=h.bd
 rcases h4 with h4 | h4
 ·have:=h4.1;omega
 ·have:=h4.1;have:=h4.2.1;omega
theorem QI.wb (h:QI n Bd s qs) (c:Option Nat):s.f (qw c)≤Bd:=by
 have:=h.bd
 cases c with
 | none=>show s.f 1≤Bd;have:=h.t0;omega
 | some v=>show s.f 0≤Bd;have:=h.p0;omega
theorem psi_eq {m:Nat} (h0:s'.f 0=s.f 0) (h1:s'.f 1=s.f 1):qpsi m s' a=qpsi m s a:=by
 have hw:∀ c,s'.f (qw c)=s.f (qw c):=fun c=>by cases c <;> assumption
 unfold qpsi qwt
 simp only [hw]
theorem phi_step (hq:qs[j]?=some q) (h0:s'.f 0=s.f 0) (h1:s'.f 1=s.f 1) (hd:∀ m,qpsi m s q'+1≤qpsi m s q):qphi s' (qs.set j q')<qphi s qs:=by
 unfold qphi
 rw [List.length_set]
 exact sum_step (φ0:=qpsi qs.length s) (φ1:=qpsi qs.length s') (fun a=>Nat.le_of_eq (psi_eq h0 h1)) hq (by rw [psi_eq h0 h1];exact hd _)
theorem phi_cas {c:Option Nat} (hq:qs[j]?=some q) (hcs:q.cs=c::rest) (hst:q.st=.cas t) (hst':q'.st=.val t) (hcs':q'.cs=q.cs) (hw:s'.f (qw c)≠t) (hoth:∀ c',qw c'≠qw c→s'.f (qw c')=s.f (qw c')):qphi s' (qs.set j q')<qphi s qs:=by
 unfold qphi
 rw [List.length_set]
 refine sum_step2 (φ0:=qpsi qs.length s) (φ1:=qpsi qs.length s') (d:=3) (fun a=>?_) hq ?_
 ·unfold qpsi
  have:qwt s' a≤qwt s a+3:=by
   unfold qwt
   cases a.cs with
   | nil=>simp
   | cons c r =>
    cases a.st <;> simp only
    ·omega
    ·split <;> split <;> omega
    ·split <;> split <;> omega
    ·omega
    ·omega
  omega
 ·have e1:qrem q=rest.length+1:=by unfold qrem;simp [hst,QSt.holds,hcs]
  have e2:qrem q'=rest.length:=by unfold qrem;simp [hst',QSt.holds,hcs,hcs']
  have e3:qwt s' q=6:=by unfold qwt;simp only [hcs,hst];rw [if_neg fun e=>hw e.symm]
  have e4:qwt s' q'=2:=by unfold qwt;simp only [hcs',hcs,hst']
  unfold qpsi
  rw [e1,e2,e3,e4,hcs']
  have:4*qs.length*(rest.length+1)=4*qs.length*rest.length+4*qs.length:=by rw [Nat.mul_add,Nat.mul_one]
  omega
theorem q_step (h:QI n Bd s qs) (hn:2≤n) (hn2:n≤1024) (hB:Bd<4611686018427387904) (hq:qs[j]?=some q) {mk:Int × Int} {F:QS→QS × QT} (hpl:qPlan n q=some (mk,F)) :
  QI n Bd (F s).1 (qs.set j (F s).2)∧qphi (F s).1 (qs.set j (F s).2)<qphi s qs:=by
 obtain ⟨hme,hok⟩:=h.thr j q hq
 obtain ⟨me,cs,pa,ta,st⟩:=q
 cases cs with
 | nil=>simp [qPlan] at hpl
 | cons c rest =>
  have hwb:=h.wb c
  cases st with
  | load =>
   simp only [qPlan,Option.some.injEq,Prod.mk.injEq] at hpl
   obtain ⟨_,rfl⟩:=hpl
   exact ⟨h.stay0 hq rfl rfl rfl rfl rfl (Nat.le_refl _) (Nat.le_refl _),phi_step hq rfl rfl fun m=>by simp [qpsi,qwt,qrem,QSt.holds] <;> omega⟩
  | seq t =>
   simp only [qPlan,Option.some.injEq,Prod.mk.injEq] at hpl
   obtain ⟨_,rfl⟩:=hpl
   replace hok:t≤s.f (qw c):=hok
   have hxb:=h.xb (i:=t%n) (QI.pos hn)
   have hwc:qw c≤1:=by cases c <;> simp [qw]
   simp only
   by_cases h1:9223372036854775808≤qd n s t (qw c)
   ·rw [if_pos h1]
    refine ⟨h.stay0 hq rfl rfl rfl rfl rfl (by simp [qrem,QSt.holds]) ?_,phi_step hq rfl rfl fun m=>?_⟩
    ·show QTok n s ⟨me,rest,pa,ta,.load⟩
     cases rest <;> first | rfl | trivial
    ·have e1:qwt s ⟨me,rest,pa,ta,.load⟩≤5:=by cases rest <;> simp [qwt]
     have e2:4≤qwt s ⟨me,c::rest,pa,ta,.seq t⟩:=by simp only [qwt];split <;> omega
     simp only [qpsi,qrem,QSt.holds,List.length_cons]
     have:4*m*rest.length≤4*m*(rest.length+1):=Nat.mul_le_mul_left _ (by omega)
     simp only [Bool.false_eq_true,if_false]
     omega
   ·rw [if_neg h1]
    have hd:qd n s t (qw c)=s.f (2+2*(t%n))-t-qw c∧t+qw c≤s.f (2+2*(t%n)):=by
     unfold qd at h1 ⊢
     generalize s.f (2+2*(t%n))=x at *
     omega
    by_cases h2:0<qd n s t (qw c)
    ·rw [if_pos h2]
     have hne:t≠s.f (qw c):=fun e=>by
      cases c with
      | some v=>have:=(h.put_slot hn e.symm (by omega)).2.1;simp only [qw] at hd h2;omega
      | none=>have:=(h.take_slot hn e.symm (by simp only [qw] at hd;omega)).2.1;simp only [qw] at hd h2;omega
     exact ⟨h.stay0 hq rfl rfl rfl rfl rfl (Nat.le_refl _) trivial,phi_step hq rfl rfl fun m=>by simp only [qpsi,qwt,qrem,QSt.holds,Bool.false_eq_true,if_false];rw [if_neg hne];omega⟩
    ·rw [if_neg h2]
     refine ⟨h.stay0 hq rfl rfl rfl rfl rfl (Nat.le_refl _) ⟨hok,hd.2⟩,phi_step hq rfl rfl fun m=>?_⟩
     simp only [qpsi,qwt,qrem,QSt.holds,Bool.false_eq_true,if_false]
     split <;> omega
  | cas t =>
   simp only [qPlan,Option.some.injEq,Prod.mk.injEq] at hpl
   obtain ⟨_,rfl⟩:=hpl
   replace hok:t≤s.f (qw c)∧t+qw c≤s.f (2+2*(t%n)):=hok
   by_cases he:s.f (qw c)=t
   ·simp only [if_pos he]
    have hm:(t+1)%18446744073709551616≠t:=by omega
    refine ⟨?_,phi_cas hq rfl rfl rfl rfl (by show upd _ _ _ _≠t;rw [upd_same];exact hm) fun c' hc'=>upd_other hc'⟩
    cases c with
    | some v=>exact h.casP hn hB hq rfl rfl he
    | none=>exact h.casT hn hB hq rfl rfl he
   ·simp only [if_neg he]
    exact ⟨h.stay0 hq rfl rfl rfl rfl rfl (Nat.le_refl _) trivial,phi_step hq rfl rfl fun m=>by simp only [qpsi,qwt,qrem,QSt.holds,Bool.false_eq_true,if_false];rw [if_neg fun e=>he e.symm];omega⟩
  | val t =>
   cases c with
   | some v =>
    simp only [qPlan,Option.some.injEq,Prod.mk.injEq] at hpl
    obtain ⟨_,rfl⟩:=hpl
    exact ⟨h.valP hn hq rfl rfl,phi_step hq (upd_other (by omega)) (upd_other (by omega)) fun m=>by simp [qpsi,qwt,qrem,QSt.holds] <;> omega⟩
   | none =>
    simp only [qPlan,Option.some.injEq,Prod.mk.injEq] at hpl
    obtain ⟨_,rfl⟩:=hpl
    replace hok:s.tk[t]?=some me∧s.f (2+2*(t%n))=t+1:=hok
    have hb:=(h.b_at hn hok.2).2.2.2.2.1
    refine ⟨h.stay hq rfl (fun t'=>⟨fun ⟨_,_,e,_⟩=>(by cases e),fun ⟨_,_,e,_⟩=>(by cases e)⟩) (fun t'=>⟨fun x=>?_,fun x=>?_⟩) (Nat.le_refl _) ⟨hok.1,hok.2,hb⟩ rfl rfl,phi_step hq rfl rfl fun m=>by simp [qpsi,qwt,qrem,QSt.holds] <;> omega⟩
    ·have:=takes_only (q:=⟨me,none::rest,pa,ta,.rel t (s.f (3+2*(t%n)))⟩) (t:=t) rfl (.inr ⟨_,rfl⟩) (.inr x)
     subst this
     exact ⟨rest,rfl,.inl rfl⟩
    ·have:=takes_only (q:=⟨me,none::rest,pa,ta,.val t⟩) (t:=t) rfl (.inl rfl) (.inr x)
     subst this
     exact ⟨rest,rfl,.inr ⟨_,rfl⟩⟩
  | rel t u =>
   have hwt:∀ (pa' ta':List Nat),qwt s ⟨me,rest,pa',ta',.load⟩≤5:=fun _ _=>by cases rest <;> simp [qwt]
   cases c with
   | some v =>
    simp only [qPlan,Option.some.injEq,Prod.mk.injEq] at hpl
    obtain ⟨_,rfl⟩:=hpl
    refine ⟨h.relP hn hB hq rfl rfl,phi_step hq (upd_other (by omega)) (upd_other (by omega)) fun m=>?_⟩
    have:=hwt (pa++[u]) ta
    simp only [qpsi,qrem,QSt.holds,List.length_cons] at this ⊢
    simp only [qwt] at this ⊢
    simp
    omega
   | none =>
    simp only [qPlan,Option.some.injEq,Prod.mk.injEq] at hpl
    obtain ⟨_,rfl⟩:=hpl
    refine ⟨h.relT hn hn2 hB hq rfl rfl,phi_step hq (upd_other (by omega)) (upd_other (by omega)) fun m=>?_⟩
    have:=hwt pa (ta++[u])
    simp only [qpsi,qrem,QSt.holds,List.length_cons] at this ⊢
    simp only [qwt] at this ⊢
    simp
    omega
end
end
end Go.Proofs.Ytmkkanmkjfnpdaa
namespace Go.PB
open Go.Conc
section
def mIdx:List (Int × Value)→Int→Nat→Option (Nat × Value)
 | [],_,_=>none
 | e::l,k,i=>if k=e.1 then some (i,e.2) else mIdx l k (i+1)
def mGet:List (Int × Value)→Int→Option Value
 | [],_=>none
 | e::l,k=>if k=e.1 then some e.2 else mGet l k
def mPut:List (Int × Value)→Int→Value→List (Int × Value)
 | [],k,v=>[(k,v)]
 | e::l,k,v=>if k=e.1 then (k,v)::l else e::mPut l k v
def mDel:List (Int × Value)→Int→List (Int × Value)
 | [],_=>[]
 | e::l,k=>if k=e.1 then l else e::mDel l k
theorem mIdx_get:∀ (l:List (Int × Value)) (k:Int) (i:Nat),(mIdx l k i).map (·.2)=mGet l k
 | [],_,_=>rfl
 | e::l,k,i=>by
  unfold mIdx mGet
  split
  ·rfl
  ·exact mIdx_get l k (i+1)
structure EsOk (ki:IntKind) (es:List MapEntry) (clock:Nat) (l:List (Int × Value)):Prop where
 eq:es.map (fun e=>(e.key,e.val))=l.map fun y=>(Value.int ki y.1,y.2)
 lt:∀ e∈es,e.born<clock
 nd:(es.map (·.born)).Nodup
section
variable {ki:IntKind} {es:List MapEntry} {clock:Nat} {l:List (Int × Value)}
theorem EsOk.nil:EsOk ki [] clock []:=⟨rfl,fun e h=>by simp at h,by simp⟩
theorem EsOk.len (h:EsOk ki es clock l):es.length=l.length:=by have:=congrArg List.length h.eq;simpa using this
theorem EsOk.get (h:EsOk ki es clock l) {i:Nat} {y:Int × Value} (hy:l[i]?=some y):∃ e,es[i]?=some e∧e.key=.int ki y.1∧e.val=y.2:=by
 have:=congrArg (fun x=>x[i]?) h.eq
 simp only [List.getElem?_map,hy,Option.map_some] at this
 obtain ⟨e,h1,h2⟩:=Option.map_eq_some_iff.1 this
 simp only [Prod.mk.injEq] at h2
 exact ⟨e,h1,h2.1,h2.2⟩
theorem findNow_eq {kk:IntKind} {k:Int}:∀ {es:List MapEntry} {l:List (Int × Value)} (i:Nat),es.map (fun e=>(e.key,e.val))=l.map (fun y=>(Value.int ki y.1,y.2))→Instr.findNow (.int kk) (.int ki k) es i=some (mIdx l k i)
 | [],[],_,_=>rfl
 | [],_::_,_,h=>by simp at h
 | _::_,[],_,h=>by simp at h
 | e::es,y::l,i,h=>by
  simp only [List.map_cons,List.cons.injEq,Prod.mk.injEq] at h
  obtain ⟨⟨h1,h2⟩,h3⟩:=h
  unfold Instr.findNow mIdx
  rw [h1]
  by_cases hk:k=y.1
  ·rw [if_pos hk]
   have:Instr.sameNow (.int kk) (.int ki k) (.int ki y.1)=some true:=by simp [Instr.sameNow,hk]
   rw [this,h2]
  ·rw [if_neg hk]
   have:Instr.sameNow (.int kk) (.int ki k) (.int ki y.1)=some false:=by simp [Instr.sameNow,hk]
   rw [this]
   exact findNow_eq (i+1) h3
theorem mIdx_none:∀ {l:List (Int × Value)} {k:Int} {i:Nat},mIdx l k i=none→∀ v,mPut l k v=l++[(k,v)]
 | [],_,_,_,_=>rfl
 | e::l,k,i,h,v=>by
  unfold mIdx at h
  split at h
  ·cases h
  ·rename_i hk
   unfold mPut
   rw [if_neg hk,mIdx_none h v];rfl
theorem mIdx_some:∀ {l:List (Int × Value)} {k:Int} {i j:Nat} {u:Value},mIdx l k i=some (j,u)→∃ q,j=i+q∧q<l.length∧l[q]?=some (k,u)∧(∀ v,mPut l k v=l.set q (k,v))∧mDel l k=l.eraseIdx q
 | [],_,_,_,_,h=>by cases h
 | e::l,k,i,j,u,h=>by
  unfold mIdx at h
  split at h
  ·rename_i hk
   cases h
   exact ⟨0,rfl,Nat.succ_pos _,by rw [hk];rfl,fun v=>by unfold mPut;rw [if_pos hk];rfl,by unfold mDel;rw [if_pos hk];rfl⟩
  ·rename_i hk
   obtain ⟨q,h1,h2,h3,h4,h5⟩:=mIdx_some h
   exact ⟨q+1,by omega,by simp;omega,by simpa using h3,fun v=>by unfold mPut;rw [if_neg hk,h4];rfl,by unfold mDel;rw [if_neg hk,h5];rfl⟩
theorem EsOk.push {k:Int} {v:Value} (h:EsOk ki es clock l):EsOk ki (es++[⟨.int ki k,v,clock⟩]) (clock+1) (l++[(k,v)]):=⟨by
  simp [h.eq],fun e he=>by
  rcases List.mem_append.1 he with he | he
  ·exact Nat.lt_succ_of_lt (h.lt e he)
  ·cases List.mem_singleton.1 he;exact Nat.lt_succ_self _,by
  rw [List.map_append,List.nodup_append]
  refine ⟨h.nd,by simp,fun a ha b hb=>?_⟩
  obtain ⟨e,he,rfl⟩:=List.mem_map.1 ha
  simp only [List.map_cons,List.map_nil,List.mem_singleton] at hb
  have:=h.lt e he
  omega⟩
theorem EsOk.set {k:Int} {v:Value} {q:Nat} {e:MapEntry} (h:EsOk ki es clock l) (he:es[q]?=some e):EsOk ki (es.set q { e with key:=.int ki k,val:=v }) clock (l.set q (k,v)) where
 eq:=by rw [List.map_set,List.map_set,h.eq]
 lt:=fun e' he'=>by
  rcases List.mem_or_eq_of_mem_set he' with h1 | rfl
  ·exact h.lt _ h1
  ·exact h.lt e (List.mem_of_getElem? he)
 nd:=by
  rw [List.map_set]
  have:(es.map (·.born)).set q e.born=es.map (·.born):=by
   apply List.ext_getElem?
   intro i
   rw [List.getElem?_set]
   split
   ·rename_i hi;subst hi
    rw [List.getElem?_map,he]
    have:=(List.getElem?_eq_some_iff.1 he).1
    simp [this]
   ·rfl
  rw [this];exact h.nd
theorem map_eraseIdx' {α β:Type} {f:α→β}:∀ (l:List α) (q:Nat),(l.eraseIdx q).map f=(l.map f).eraseIdx q
 | [],_=>rfl
 | a::l,0=>rfl
 | a::l,q+1=>by simp [map_eraseIdx' l q]
theorem EsOk.del {q:Nat} (h:EsOk ki es clock l):EsOk ki (es.eraseIdx q) clock (l.eraseIdx q) where
 eq:=by
  rw [map_eraseIdx',map_eraseIdx',h.eq]
 lt:=fun e he=>h.lt e (List.mem_of_mem_eraseIdx he)
 nd:=by
  rw [map_eraseIdx']
  exact h.nd.sublist (List.eraseIdx_sublist _ _)
end
theorem modify_set {α:Type} (f:α→α):∀ {l:List α} {i:Nat} {a:α},l[i]?=some a→l.modify i f=l.set i (f a)
 | [],_,_,h=>by simp at h
 | b::l,0,a,h=>by simp at h;subst h;rfl
 | b::l,i+1,a,h=>by
  simp only [List.getElem?_cons_succ] at h
  simp [modify_set f h]
def mapC (ki:IntKind) (b:Nat) (l:List (Int × Value)):HProp:=fun h=>∃ es clock,EsOk ki es clock l∧h.obj b=some (.map es.toArray clock)
section
variable {P:Program} {e:Env} {ty:TypeId} {L F:List HProp} {ki:IntKind} {b:Nat} {l:List (Int × Value)}
theorem mapC_new {h:Hp} (f:h.fresh b) (s:Star L h):Star (mapC ki b []::L) (h.setObj b (.map #[] 0)) :=
 star_map (star_newObj f s) (fun h ho=>⟨[],0,.nil,ho⟩) fun _ z=>z
theorem mapC_obj {h:Hp} (s:Star (mapC ki b l::L) h):∃ es clock,EsOk ki es clock l∧Star (ob b (.map es.toArray clock)::L) h:=by
 obtain ⟨h1,h2,s1,⟨es,clock,he,ho⟩,hL⟩:=s
 exact ⟨es,clock,he,h1,h2,s1,ho,hL⟩
theorem mapC_of {h:Hp} {es:List MapEntry} {clock:Nat} (he:EsOk ki es clock l) (s:Star (ob b (.map es.toArray clock)::L) h):Star (mapC ki b l::L) h :=
 star_map s (fun h ho=>⟨es,clock,he,ho⟩) fun _ z=>z
theorem wpS_checkKey {M:Mark→Prop} {empty:Bool} {n key:Nat} {kk:IntKind} {k:Int} {h:Hp} {Q:Unit→Hp→Prop} {X:Value→Hp→Prop} (hk:P.underlying key=some (.int kk)) (q:Q () h):wpS P M (Instr.checkKey empty (n+1) key (.int ki k)) h Q X:=by
 unfold Instr.checkKey
 exact wpS_underlying hk q
theorem wpS_findKey {M:Mark→Prop} {key:Nat} {kk:IntKind} {k:Int} {es:List MapEntry} {clock:Nat} {h:Hp} {Q:Option (Nat × Value)→Hp→Prop} {X:Value→Hp→Prop} (hk:P.underlying key=some (.int kk)) (he:EsOk ki es clock l) (q:Q (mIdx l k 0) h):wpS P M (Instr.findKey key (.int ki k) es) h Q X:=by
 unfold Instr.findKey
 refine wpS_underlying hk ?_
 rw [findNow_eq 0 he.eq]
 exact q
theorem mo_makeMap {t:TypeId} (ki:IntKind):Mo P e (.makeMap t none) ty L fun v' L'=>∃ b,v'=.map (some b)∧L'=mapC ki b []::L:=by
 intro M _ _ tt h Q X ag s q
 show wpS P M (Sem.bind (Instr.makeMap t none) fun v=>pure (.value v)) h Q X
 intro b hf
 exact q _ _ _ _ (.inl rfl) ⟨b,rfl,rfl⟩ (mapC_new hf s)
theorem wpS_mapUpdate {M:Mark→Prop} {t key el:Nat} {kk:IntKind} {k:Int} {v:Value} {h:Hp} {Q:Unit→Hp→Prop} {X:Value→Hp→Prop} (ht:P.underlying t=some (.map key el)) (hk:P.underlying key=some (.int kk)) (s:Star (mapC ki b l::L) h)
  (q:∀ h',Star (mapC ki b (mPut l k v)::L) h'→Q () h'):wpS P M (Instr.mapUpdate t (.map (some b)) (.int ki k) v) h Q X:=by
 obtain ⟨es,clock,he,s'⟩:=mapC_obj s
 unfold Instr.mapUpdate
 refine wpS_underlying ht ?_
 refine ⟨_,(star_setObj (o':=.map #[] 0) s').1,?_⟩
 refine wpS_bind _ _ ?_
 change wpS P M (Sem.bind (Instr.checkKey _ 10000 _ _) _) _ _ _
 refine wpS_bind _ _ (wpS_checkKey (n:=9999) hk ?_)
 refine wpS_bind _ _ (wpS_findKey hk (l:=l) (by simpa using he) ?_)
 cases hm:mIdx l k 0 with
 | none =>
  obtain ⟨h1,h2⟩:=star_setObj (o':=.map (es++[({ key:=.int ki k,val:=v,born:=clock }:MapEntry)]).toArray (clock+1)) s'
  refine ⟨by rw [h1];rfl,rfl,?_⟩
  rw [show es.toArray.push ({ key:=.int ki k,val:=v,born:=clock }:MapEntry)=(es++[({ key:=.int ki k,val:=v,born:=clock }:MapEntry)]).toArray by simp]
  refine q _ (mapC_of ?_ h2)
  rw [mIdx_none hm v]
  exact he.push
 | some y =>
  obtain ⟨j,u⟩:=y
  obtain ⟨i,h1,h2,h3,h4,_⟩:=mIdx_some hm
  obtain rfl:j=i:=by omega
  obtain ⟨en,h5,h6,h7⟩:=he.get h3
  have hb:Instr.sameBits 10000 (((es.toArray[j]?).map (·.key)).getD (.int ki k)) (.int ki k)=true:=by
   rw [List.getElem?_toArray,h5,Option.map_some,Option.getD_some,h6]
   show Instr.sameBits (9999+1) _ _=true
   simp [Instr.sameBits]
  show wpS P M (Sem.bind (Instr.keyThatStays _ _) _) h Q X
  unfold Instr.keyThatStays
  rw [if_pos hb]
  obtain ⟨k1,k2⟩:=star_setObj (o':=.map (es.set j { en with key:=.int ki k,val:=v }).toArray clock) s'
  refine ⟨by rw [k1];rfl,rfl,?_⟩
  rw [show (es.toArray.modify j fun e=>{ e with key:=.int ki k,val:=v })=(es.set j { en with key:=.int ki k,val:=v }).toArray by
   apply Array.ext'
   simp only [Array.toList_modify]
   exact modify_set _ h5]
  refine q _ (mapC_of ?_ k2)
  rw [h4]
  exact he.set h5
theorem mo_mapUpdate {t key el:Nat} {kk:IntKind} {m ko x:Operand} {k:Int} {v:Value} [p:Und P t (.map key el)] [pk:InT P key kk] (hm:ev e m=some (.map (some b))) (hk:ev e ko=some (.int ki k)) (hx:ev e x=some v) (hh:Has L (mapC ki b l) F) :
  Mo P e (.mapUpdate t m ko x) ty L fun v' L'=>v'=undef∧L'=mapC ki b (mPut l k v)::F:=by
 intro M _ _ tt h Q X ag s q
 show wpS P M (Sem.bind (Instr.mapUpdate t (evT tt m) (evT tt ko) (evT tt x)) fun _=>pure .skip) h Q X
 rw [ag.ev hm,ag.ev hk,ag.ev hx]
 exact wpS_bind _ _ (wpS_mapUpdate p.ok pk.ok (hh.star s) fun h' s'=>q undef _ _ _ (.inr ⟨rfl,rfl⟩) ⟨rfl,rfl⟩ s')
theorem wpS_lookup {M:Mark→Prop} {t key el:Nat} {kk:IntKind} {zv:Value} {k:Int} {ok:Bool} {h:Hp} {Q:Value→Hp→Prop} {X:Value→Hp→Prop} (ht:P.underlying t=some (.map key el)) (hk:P.underlying key=some (.int kk)) (hz:zeroOf P el=some zv) (s:Star (mapC ki b l::L) h)
  (q:Q (if ok=true then .tuple #[(mGet l k).getD zv,.bool (mGet l k).isSome] else (mGet l k).getD zv) h):wpS P M (Instr.lookup t (.map (some b)) (.int ki k) ok) h Q X:=by
 obtain ⟨es,clock,he,s'⟩:=mapC_obj s
 unfold Instr.lookup
 refine wpS_underlying ht ?_
 refine ⟨_,(star_setObj (o':=.map #[] 0) s').1,?_⟩
 refine wpS_bind _ _ ?_
 change wpS P M (Sem.bind (Instr.checkKey _ 10000 _ _) _) _ _ _
 refine wpS_bind _ _ (wpS_checkKey (n:=9999) hk ?_)
 refine wpS_bind _ _ (wpS_findKey hk (l:=l) (by simpa using he) ?_)
 have hg:=mIdx_get l k 0
 cases hm:mIdx l k 0 with
 | none =>
  rw [hm] at hg
  rw [← hg] at q
  refine wpS_zeroValue hz ?_
  cases ok <;> exact q
 | some y =>
  rw [hm] at hg
  rw [← hg] at q
  cases ok <;> exact q
theorem mo_lookup {t key el:Nat} {kk:IntKind} {zv:Value} {m ko:Operand} {k:Int} {ok:Bool} [p:Und P t (.map key el)] [pk:InT P key kk] [z:Zer P el zv] (hm:ev e m=some (.map (some b))) (hk:ev e ko=some (.int ki k)) (hh:Has L (mapC ki b l) F) :
  Mo P e (.lookup t m ko ok) ty L fun v' L'=>v'=(if ok=true then .tuple #[(mGet l k).getD zv,.bool (mGet l k).isSome] else (mGet l k).getD zv)∧L'=L:=by
 intro M _ _ tt h Q X ag s q
 show wpS P M (Sem.bind (Instr.lookup t (evT tt m) (evT tt ko) ok) fun v=>pure (.value v)) h Q X
 rw [ag.ev hm,ag.ev hk]
 exact wpS_bind _ _ (wpS_lookup p.ok pk.ok z.ok (hh.star s) (q _ L _ _ (.inl rfl) ⟨rfl,rfl⟩ s))
theorem mo_lookup2 {t key el:Nat} {kk:IntKind} {zv:Value} {m ko:Operand} {k:Int} [p:Und P t (.map key el)] [pk:InT P key kk] [z:Zer P el zv] (hm:ev e m=some (.map (some b))) (hk:ev e ko=some (.int ki k)) (hh:Has L (mapC ki b l) F) :
  Mo P e (.lookup t m ko true) ty L fun v' L'=>v'=.tuple #[(mGet l k).getD zv,.bool (mGet l k).isSome]∧L'=L:=by
 have h:=mo_lookup (P:=P) (e:=e) (ty:=ty) (L:=L) (F:=F) (t:=t) (ki:=ki) (b:=b) (l:=l) (m:=m) (ko:=ko) (k:=k) (ok:=true) (el:=el) (key:=key) (kk:=kk) (zv:=zv) hm hk hh
 rw [if_pos rfl] at h
 exact h
theorem mo_lookup1 {t key el:Nat} {kk:IntKind} {zv:Value} {m ko:Operand} {k:Int} [p:Und P t (.map key el)] [pk:InT P key kk] [z:Zer P el zv] (hm:ev e m=some (.map (some b))) (hk:ev e ko=some (.int ki k)) (hh:Has L (mapC ki b l) F) :
  Mo P e (.lookup t m ko false) ty L fun v' L'=>v'=(mGet l k).getD zv∧L'=L:=by
 have h:=mo_lookup (P:=P) (e:=e) (ty:=ty) (L:=L) (F:=F) (t:=t) (ki:=ki) (b:=b) (l:=l) (m:=m) (ko:=ko) (k:=k) (ok:=false) (el:=el) (key:=key) (kk:=kk) (zv:=zv) hm hk hh
 rw [if_neg (by decide)] at h
 exact h
theorem mo_mapLen {t key el:Nat} {m:Operand} [p:Und P t (.map key el)] (hm:ev e m=some (.map (some b))) (hh:Has L (mapC ki b l) F) :
  Mo P e (.call ⟨.builtin .len,#[m],#[t]⟩) ty L fun v' L'=>v'=.int .i64 (l.length:Nat)∧L'=L:=by
 intro M _ _ tt h Q X ag s q
 show wpS P M (Sem.bind (Builtin.len_ #[t] ty (#[m].map (evT tt))) fun v=>pure (.value v)) h Q X
 rw [show #[m].map (evT tt)=#[evT tt m] by simp,ag.ev hm]
 obtain ⟨es,clock,he,s'⟩:=mapC_obj (hh.star s)
 refine wpS_bind _ _ ?_
 refine wpS_underlying p.ok ?_
 refine ⟨_,(star_setObj (o':=.map #[] 0) s').1,?_⟩
 show Q (.value (goInt es.toArray.size)) h
 rw [List.size_toArray,he.len]
 exact q _ L _ _ (.inl rfl) ⟨rfl,rfl⟩ s
theorem mo_mapDelete {t t2 key el:Nat} {kk:IntKind} {m ko:Operand} {k:Int} [p:Und P t (.map key el)] [pk:InT P key kk] (hm:ev e m=some (.map (some b))) (hk:ev e ko=some (.int ki k)) (hh:Has L (mapC ki b l) F) :
  Mo P e (.call ⟨.builtin .delete,#[m,ko],#[t,t2]⟩) ty L fun v' L'=>v'=.tuple #[]∧L'=mapC ki b (mDel l k)::F:=by
 intro M _ _ tt h Q X ag s q
 show wpS P M (Sem.bind (Builtin.delete_ #[t,t2] ty (#[m,ko].map (evT tt))) fun v=>pure (.value v)) h Q X
 rw [show #[m,ko].map (evT tt)=#[evT tt m,evT tt ko] by simp,ag.ev hm,ag.ev hk]
 obtain ⟨es,clock,he,s'⟩:=mapC_obj (hh.star s)
 refine wpS_bind _ _ ?_
 refine wpS_underlying p.ok ?_
 refine ⟨_,(star_setObj (o':=.map #[] 0) s').1,?_⟩
 refine wpS_bind _ _ ?_
 change wpS P M (Sem.bind (Instr.checkKey _ 10000 _ _) _) _ _ _
 refine wpS_bind _ _ (wpS_checkKey (n:=9999) pk.ok ?_)
 refine wpS_bind _ _ (wpS_findKey pk.ok (l:=l) (by simpa using he) ?_)
 cases hi:mIdx l k 0 with
 | none =>
  obtain ⟨h1,h2⟩:=star_setObj (o':=.map es.toArray clock) s'
  refine ⟨by rw [h1];rfl,rfl,?_⟩
  have hd:∀ {l:List (Int × Value)} {i:Nat},mIdx l k i=none→mDel l k=l:=by
   intro l
   induction l with
   | nil=>intro i _;rfl
   | cons y l ih =>
    intro i hi
    unfold mIdx at hi
    split at hi
    ·cases hi
    ·rename_i hk
     unfold mDel
     rw [if_neg hk,ih hi]
  refine q _ _ _ _ (.inl rfl) ⟨rfl,rfl⟩ (mapC_of ?_ h2)
  rw [hd hi];exact he
 | some y =>
  obtain ⟨j,u⟩:=y
  obtain ⟨i,h1,h2,h3,_,h5⟩:=mIdx_some hi
  obtain rfl:j=i:=by omega
  obtain ⟨k1,k2⟩:=star_setObj (o':=.map (es.eraseIdx j).toArray clock) s'
  refine ⟨by rw [k1];rfl,rfl,?_⟩
  rw [show es.toArray.eraseIdxIfInBounds j=(es.eraseIdx j).toArray by simp]
  refine q _ _ _ _ (.inl rfl) ⟨rfl,rfl⟩ (mapC_of ?_ k2)
  rw [h5];exact he.del
end
end
end Go.PB
namespace Go.Proofs.Ytmkkanmkjfnpdaa
open Go Go.PB
section
abbrev KE:=Nat × (Nat × Nat)
def kV (k i:Nat):Value:=.agg #[.int .i64 (k:Nat),.int .i64 (i:Nat)]
def kEnc (y:KE):Int × Value:=((y.1:Nat),kV y.2.1 y.2.2)
section
variable {R:List KE} {v k i:Nat}
theorem kGet (nd:(R.map (·.1)).Nodup) (hm:(v,(k,i))∈R):mGet (R.map kEnc) (v:Nat)=some (kV k i):=by
 induction R with
 | nil=>simp at hm
 | cons y R ih =>
  rw [List.map_cons] at nd ⊢
  unfold mGet
  rcases List.mem_cons.1 hm with e | hm
  ·subst e;rw [if_pos (show ((v:Nat):Int)=(kEnc (v,(k,i))).1 from rfl)];rfl
  ·have hne:(v:Int)≠(kEnc y).1:=fun e=>by
    have e:v=y.1:=by have e':((v:Nat):Int)=((y.1:Nat):Int):=e;omega
    exact (List.nodup_cons.1 nd).1 (List.mem_map.2 ⟨_,hm,e⟩)
   rw [if_neg hne]
   exact ih (List.nodup_cons.1 nd).2 hm
theorem kPut (hn:v∉R.map (·.1)):mPut (R.map kEnc) (v:Nat) (kV k i)=(R++[((v,(k,i)):KE)]).map kEnc:=by
 induction R with
 | nil=>rfl
 | cons y R ih =>
  rw [List.map_cons] at hn ⊢
  have hne:(v:Int)≠(kEnc y).1:=fun e=>by
   have e:v=y.1:=by have e':((v:Nat):Int)=((y.1:Nat):Int):=e;omega
   exact hn (by rw [e];exact List.mem_cons_self)
  unfold mPut
  rw [if_neg hne,ih fun h=>hn (List.mem_cons_of_mem _ h)]
  rfl
theorem kDel (nd:(R.map (·.1)).Nodup):mDel (R.map kEnc) (v:Nat)=(R.filter fun y=>decide (y.1≠v)).map kEnc:=by
 induction R with
 | nil=>rfl
 | cons y R ih =>
  rw [List.map_cons] at nd ⊢
  have hnd:=List.nodup_cons.1 nd
  unfold mDel
  by_cases e:v=y.1
  ·rw [if_pos (by subst e;rfl),List.filter_cons,if_neg (by simp [e])]
   congr 1
   exact (List.filter_eq_self.2 fun z hz=>by
    simp only [ne_eq,decide_not,Bool.not_eq_eq_eq_not,Bool.not_true,decide_eq_false_iff_not]
    exact fun h=>hnd.1 (List.mem_map.2 ⟨z,hz,h.trans e⟩)).symm
  ·rw [if_neg (fun h=>e (by have e':((v:Nat):Int)=((y.1:Nat):Int):=h;omega)),List.filter_cons,if_pos (by simpa using fun h=>e h.symm),ih hnd.2]
   rfl
theorem kLen (nd:(R.map (·.1)).Nodup) (hm:(v,(k,i))∈R):(R.filter fun y=>decide (y.1≠v)).length+1=R.length:=by
 induction R with
 | nil=>simp at hm
 | cons y R ih =>
  rw [List.map_cons] at nd
  have hnd:=List.nodup_cons.1 nd
  rw [List.filter_cons]
  rcases List.mem_cons.1 hm with e | hm
  ·subst e
   rw [if_neg (by simp),List.filter_eq_self.2 fun z hz=>by
    simp only [ne_eq,decide_not,Bool.not_eq_eq_eq_not,Bool.not_true,decide_eq_false_iff_not]
    exact fun h=>hnd.1 (List.mem_map.2 ⟨z,hz,h⟩)]
   simp
  ·rw [if_pos (by simpa using fun h=>hnd.1 (List.mem_map.2 ⟨_,hm,h.symm⟩))]
   simp only [List.length_cons]
   have:=ih hnd.2 hm
   omega
theorem kNd (nd:(R.map (·.1)).Nodup):((R.filter fun y=>decide (y.1≠v)).map (·.1)).Nodup :=
 nd.sublist (List.filter_sublist.map _)
end
def KeptL:List KE→List Nat→(Nat→Nat)→Prop
 | _,[],_=>True
 | R,v::l,f=>∃ k i,(v,(k,i))∈R∧f k≤i∧KeptL (R.filter fun y=>decide (y.1≠v)) l (upd f k i)
def rmvs (R:List KE) (l:List Nat):List KE:=l.foldl (fun R v=>R.filter fun y=>decide (y.1≠v)) R
def KeptA:List KE→List (List Nat)→Prop
 | R,[]=>R=[]
 | R,l::ls=>KeptL R l (fun _=>0)∧KeptA (rmvs R l) ls
def ents (k:Nat) (l:List Nat):List KE:=l.mapIdx fun i v=>(v,(k,i))
def prs (ps:List (List Nat)):List KE:=(ps.mapIdx ents).flatten
theorem ents_snoc {k:Nat} {l:List Nat} {v:Nat}:ents k (l++[v])=ents k l++[(v,(k,l.length))]:=by
 unfold ents;rw [List.mapIdx_append];simp
theorem prs_snoc {ps:List (List Nat)} {l:List Nat}:prs (ps++[l])=prs ps++ents ps.length l:=by
 unfold prs;rw [List.mapIdx_append];simp
theorem ents_fst {k:Nat} {l:List Nat}:(ents k l).map (·.1)=l:=by
 apply List.ext_getElem?
 intro i
 simp only [ents,List.getElem?_map,List.getElem?_mapIdx]
 cases l[i]? <;> rfl
theorem prs_fst:∀ {ps:List (List Nat)},(prs ps).map (·.1)=ps.flatten:=by
 intro ps
 have key:∀ qs:List (List Nat),(prs qs.reverse).map (·.1)=qs.reverse.flatten:=by
  intro qs
  induction qs with
  | nil=>rfl
  | cons l qs ih=>rw [List.reverse_cons,prs_snoc,List.map_append,ih,ents_fst];simp
 have:=key ps.reverse
 rwa [List.reverse_reverse] at this
theorem prs_mem {ps:List (List Nat)} {y:KE} (h:y∈prs ps):∃ l,ps[y.2.1]?=some l∧l[y.2.2]?=some y.1:=by
 obtain ⟨r,hr,hy⟩:=List.mem_flatten.1 h
 obtain ⟨k,hk⟩:=List.mem_iff_getElem?.1 hr
 rw [List.getElem?_mapIdx] at hk
 obtain ⟨l,hl,rfl⟩:=Option.map_eq_some_iff.1 hk
 obtain ⟨i,hi⟩:=List.mem_iff_getElem?.1 hy
 unfold ents at hi
 rw [List.getElem?_mapIdx] at hi
 obtain ⟨v,hv,rfl⟩:=Option.map_eq_some_iff.1 hi
 exact ⟨l,hl,hv⟩
end
section
structure QE (m:Nat) (o:Nat→List Nat) (T:Nat→Prop) (s:QS) (qs:List QT):Prop where
 len:qs.length=m
 own:∀ x∈s.vs,x.1<m
 tak:∀ j∈s.tk,j<m∧T j
 sub:∀ (j:Nat) (q:QT),qs[j]?=some q→q.me=j∧(q.pa++q.cs.filterMap id).Sublist (o j)∧(none∈q.cs→T j)
section
variable {m n:Nat} {o:Nat→List Nat} {T:Nat→Prop} {s s':QS} {qs:List QT} {j:Nat} {q q':QT}
theorem QE.step (h:QE m o T s qs) (hq:qs[j]?=some q) (hv:∀ x∈s'.vs,x∈s.vs∨x.1=q.me) (ht:∀ x∈s'.tk,x∈s.tk∨(x=q.me∧none∈q.cs)) (hme:q'.me=q.me) (hs:(q'.pa++q'.cs.filterMap id).Sublist (q.pa++q.cs.filterMap id)) (hn:none∈q'.cs→none∈q.cs):QE m o T s' (qs.set j q'):=by
 have hlt:=(List.getElem?_eq_some_iff.1 hq).1
 obtain ⟨e1,e2,e3⟩:=h.sub j q hq
 refine ⟨by rw [List.length_set];exact h.len,fun x hx=>?_,fun x hx=>?_,fun k a hk=>?_⟩
 ·rcases hv x hx with hx | hx
  ·exact h.own x hx
  ·rw [hx,e1,← h.len];exact hlt
 ·rcases ht x hx with hx | ⟨hx,hc⟩
  ·exact h.tak x hx
  ·rw [hx,e1];exact ⟨by rw [← h.len];exact hlt,e3 hc⟩
 ·rcases set_cases hk hlt with ⟨e,e'⟩ | ⟨_,hk⟩
  ·subst e;subst e'
   exact ⟨hme.trans e1,hs.trans e2,fun x=>e3 (hn x)⟩
  ·exact h.sub k a hk
theorem qe_step {Bd:Nat} (h:QE m o T s qs) (hI:QI n Bd s qs) (hq:qs[j]?=some q) {mk:Int × Int} {F:QS→QS × QT} (hpl:qPlan n q=some (mk,F)):QE m o T (F s).1 (qs.set j (F s).2):=by
 obtain ⟨_,hok⟩:=hI.thr j q hq
 obtain ⟨me,cs,pa,ta,st⟩:=q
 have keep:∀ {q':QT} {f:Nat→Nat},q'.me=me→q'.pa=pa→q'.cs=cs→QE m o T ⟨f,s.vs,s.tk⟩ (qs.set j q'):=fun {q' f} e1 e2 e3 =>
  h.step hq (fun x hx=>.inl hx) (fun x hx=>.inl hx) e1 (by rw [e2,e3];exact List.Sublist.refl _) (by rw [e3];exact id)
 cases cs with
 | nil=>simp [qPlan] at hpl
 | cons c rest =>
  have drop:∀ {q':QT},q'.me=me→q'.pa=pa→q'.cs=rest→QE m o T s (qs.set j q'):=fun {q'} e1 e2 e3 =>
   h.step hq (fun x hx=>.inl hx) (fun x hx=>.inl hx) e1 (by rw [e2,e3];exact (List.Sublist.refl _).append ((List.sublist_cons_self _ _).filterMap _)) (by rw [e3];exact List.mem_cons_of_mem _)
  cases st with
  | load =>
   simp only [qPlan,Option.some.injEq,Prod.mk.injEq] at hpl
   obtain ⟨_,rfl⟩:=hpl
   exact keep rfl rfl rfl
  | seq t =>
   simp only [qPlan,Option.some.injEq,Prod.mk.injEq] at hpl
   obtain ⟨_,rfl⟩:=hpl
   simp only
   split
   ·exact drop rfl rfl rfl
   ·split
    ·exact keep rfl rfl rfl
    ·exact keep rfl rfl rfl
  | cas t =>
   simp only [qPlan,Option.some.injEq,Prod.mk.injEq] at hpl
   obtain ⟨_,rfl⟩:=hpl
   simp only
   split
   ·cases c with
    | some v =>
     refine h.step hq (fun x hx=>?_) (fun x hx=>.inl hx) rfl (List.Sublist.refl _) id
     rcases List.mem_append.1 hx with hx | hx
     ·exact .inl hx
     ·rw [List.mem_singleton.1 hx];exact .inr rfl
    | none =>
     refine h.step hq (fun x hx=>.inl hx) (fun x hx=>?_) rfl (List.Sublist.refl _) id
     rcases List.mem_append.1 hx with hx | hx
     ·exact .inl hx
     ·rw [List.mem_singleton.1 hx];exact .inr ⟨rfl,List.mem_cons_self⟩
   ·exact keep rfl rfl rfl
  | val t =>
   cases c with
   | some v =>
    simp only [qPlan,Option.some.injEq,Prod.mk.injEq] at hpl
    obtain ⟨_,rfl⟩:=hpl
    exact keep rfl rfl rfl
   | none =>
    simp only [qPlan,Option.some.injEq,Prod.mk.injEq] at hpl
    obtain ⟨_,rfl⟩:=hpl
    exact keep rfl rfl rfl
  | rel t u =>
   cases c with
   | some v =>
    simp only [qPlan,Option.some.injEq,Prod.mk.injEq] at hpl
    obtain ⟨_,rfl⟩:=hpl
    have e:u=v:=hok.1
    subst e
    exact h.step hq (fun x hx=>.inl hx) (fun x hx=>.inl hx) rfl (by simp) (List.mem_cons_of_mem _)
   | none =>
    simp only [qPlan,Option.some.injEq,Prod.mk.injEq] at hpl
    obtain ⟨_,rfl⟩:=hpl
    exact h.step hq (fun x hx=>.inl hx) (fun x hx=>.inl hx) rfl (by simp) (List.mem_cons_of_mem _)
end
end
section
def qLeft (s:QS):List Nat:=(s.vs.drop s.tk.length).map (·.2)
section
variable {n Bd:Nat} {s:QS} {qs:List QT}
theorem QI.room (h:QI n Bd s qs) (hn:2≤n):s.vs.length≤s.tk.length+n:=by
 obtain ⟨u,h1,h2,h3,_⟩:=h.slot (s.tk.length%n) (QI.pos hn)
 by_cases hle:s.tk.length≤u
 ·have:=mod_step (n:=n) h1.symm hle h3;omega
 ·omega
theorem QI.row (h:QI n Bd s qs) (hn:2≤n) (hn2:n≤1024) (hB:Bd<4611686018427387904) (hd:∀ q∈qs,q.cs=[]):RowAt n s.f (qLeft s):=by
 have hle:=h.le
 have hr:=h.room hn
 have hbd:=h.bd
 have hlen:(qLeft s).length=s.vs.length-s.tk.length:=by simp [qLeft]
 have noP:∀ t,¬ ∃ (j:Nat) (q:QT),qs[j]?=some q∧Puts t q:=fun t ⟨j,q,h1,v,r,h2,_⟩=>by rw [hd q (List.mem_of_getElem? h1)] at h2;cases h2
 have noT:∀ t,¬ ∃ (j:Nat) (q:QT),qs[j]?=some q∧Takes t q:=fun t ⟨j,q,h1,r,h2,_⟩=>by rw [hd q (List.mem_of_getElem? h1)] at h2;cases h2
 have hp:=h.p0
 have ht:=h.t0
 have key:∀ t,s.tk.length≤t→t<s.tk.length+n→(t<s.vs.length→SlotB s qs (t%n) t)∧(s.vs.length≤t→s.f (2+2*(t%n))=t):=fun t g1 g2=>by
  obtain ⟨u,h1,h2,h3,h4⟩:=h.slot (t%n) (QI.pos hn)
  have hu:s.tk.length≤u→u=t:=fun hu=>by
   rcases Nat.le_total t u with hl | hl
   ·exact mod_step (n:=n) h1.symm hl (by omega)
   ·exact (mod_step (n:=n) h1 hl (by omega)).symm
  rcases h4 with h4 | h4
  ·obtain rfl:=hu h4.2.1
   exact ⟨fun hv=>absurd (h4.2.2 hv) (noP _),fun _=>h4.1⟩
  ·have hTu:s.tk.length≤u:=Nat.le_of_not_lt fun hlt=>noT _ (h4.2.2.2 hlt)
   obtain rfl:=hu hTu
   exact ⟨fun _=>h4,fun hv=>by have:=h4.2.1;omega⟩
 refine ⟨by rw [hlen];omega,by rw [hlen];omega,by omega,fun i v hi=>?_,fun i h1 h2=>?_⟩
 ·have hlt:=(List.getElem?_eq_some_iff.1 hi).1
  rw [hlen] at hlt
  have hb:=(key (s.tk.length+i) (by omega) (by omega)).1 (by omega)
  rw [ht]
  refine ⟨by rw [hb.1];omega,?_⟩
  have e:=hb.2.2.1
  unfold qLeft at hi
  rw [List.getElem?_map,List.getElem?_drop] at hi
  rw [hi] at e
  exact (Option.some.inj e).symm
 ·rw [hlen] at h1
  rw [ht,(key (s.tk.length+i) (by omega) (by omega)).2 (by omega)]
  omega
end
def cnt (p:List (Nat × Nat)) (k:Nat):Nat:=(p.filter fun x=>decide (x.1=k)).length
theorem cnt_snoc {p:List (Nat × Nat)} {x:Nat × Nat} {k:Nat}:cnt (p++[x]) k=cnt p k+if x.1=k then 1 else 0:=by
 unfold cnt
 rw [List.filter_append,List.length_append]
 by_cases e:x.1=k <;> simp [e]
theorem keptL_sub:∀ {suf pre:List (Nat × Nat)} {R:List KE} {l:List Nat} {f:Nat→Nat},l.Sublist (suf.map (·.2))→(∀ k,f k≤cnt pre k)→(suf.map (·.2)).Nodup →
  (∀ p x q,suf=p++x::q→x.2∈l→((x.2,(x.1,cnt (pre++p) x.1)):KE)∈R)→KeptL R l f
 | [],pre,R,l,f,hs,hf,hn,hR=>by
  cases hs;trivial
 | x::suf,pre,R,l,f,hs,hf,hn,hR=>by
  rw [List.map_cons] at hs hn
  have hn':=List.nodup_cons.1 hn
  cases hs with
  | cons _ hs =>
   refine keptL_sub (pre:=pre++[x]) hs (fun k=>?_) hn'.2 fun p y q e hy=>?_
   ·rw [cnt_snoc];have:=hf k;omega
   ·have:=hR (x::p) y q (by rw [e];rfl) hy
    rwa [List.append_assoc]
  | cons_cons _ hs =>
   rename_i l
   refine ⟨x.1,cnt pre x.1,?_,hf _,?_⟩
   ·have:=hR [] x suf rfl List.mem_cons_self
    rwa [List.append_nil] at this
   ·refine keptL_sub (pre:=pre++[x]) hs (fun k=>?_) hn'.2 fun p y q e hy=>?_
    ·rw [cnt_snoc]
     by_cases hk:k=x.1
     ·subst hk;rw [upd_same];omega
     ·rw [upd_other hk];have:=hf k;omega
    ·refine List.mem_filter.2 ⟨?_,?_⟩
     ·have:=hR (x::p) y q (by rw [e];rfl) (List.mem_cons_of_mem _ hy)
      rwa [List.append_assoc]
     ·have hne:y.2≠x.2:=fun e2=>hn'.1 (by rw [← e2,e];simp)
      simpa using hne
theorem rmvs_mem:∀ {l:List Nat} {R:List KE} {y:KE},y∈rmvs R l↔y∈R∧y.1∉l
 | [],R,y=>by simp [rmvs]
 | v::l,R,y=>by
  show y∈rmvs (R.filter fun y=>decide (y.1≠v)) l↔_
  rw [rmvs_mem,List.mem_filter]
  simp only [List.mem_cons,not_or,decide_eq_true_eq,ne_eq]
  constructor
  ·rintro ⟨⟨h1,h2⟩,h3⟩;exact ⟨h1,h2,h3⟩
  ·rintro ⟨h1,h2,h3⟩;exact ⟨⟨h1,h2⟩,h3⟩
theorem keptA_of {vs:List (Nat × Nat)} (hnd:(vs.map (·.2)).Nodup):∀ {ls:List (List Nat)} {R:List KE},(∀ l∈ls,l.Sublist (vs.map (·.2)))→ls.flatten.Nodup→(∀ y∈R,y.1∈ls.flatten) →
  (∀ p x q,vs=p++x::q→x.2∈ls.flatten→((x.2,(x.1,cnt p x.1)):KE)∈R)→KeptA R ls
 | [],R,hs,hn,hR,hE=>List.eq_nil_iff_forall_not_mem.2 fun y hy=>by have:=hR y hy;simp at this
 | l::ls,R,hs,hn,hR,hE=>by
  rw [List.flatten_cons] at hn
  have hn':=List.nodup_append.1 hn
  refine ⟨keptL_sub (pre:=[]) (hs l (by simp)) (fun k=>Nat.zero_le _) hnd fun p x q e hx=>?_,keptA_of hnd (fun l' h'=>hs l' (by simp [h'])) hn'.2.1 (fun y hy=>?_) fun p x q e hx=>?_⟩
  ·exact hE p x q e (by rw [List.flatten_cons];exact List.mem_append.2 (.inl hx))
  ·obtain ⟨h1,h2⟩:=rmvs_mem.1 hy
   have:=hR y h1
   rw [List.flatten_cons,List.mem_append] at this
   exact this.resolve_left h2
  ·refine rmvs_mem.2 ⟨hE p x q e (by rw [List.flatten_cons];exact List.mem_append.2 (.inr hx)),fun h'=>hn'.2.2 _ h' _ hx rfl⟩
theorem nodup_by {key:Nat→Nat}:∀ {l:List (Nat × Nat)},(∀ x∈l,key x.2=x.1)→(∀ j,((l.filter fun x=>decide (x.1=j)).map (·.2)).Nodup)→(l.map (·.2)).Nodup
 | [],_,_=>List.nodup_nil
 | x::l,hk,hn=>by
  rw [List.map_cons]
  refine List.nodup_cons.2 ⟨fun hm=>?_,nodup_by (fun y hy=>hk y (by simp [hy])) fun j=>?_⟩
  ·obtain ⟨y,hy,e⟩:=List.mem_map.1 hm
   have e1:y.1=x.1:=by rw [← hk y (by simp [hy]),← hk x (by simp),e]
   have:=hn x.1
   rw [List.filter_cons,if_pos (by simp),List.map_cons] at this
   exact (List.nodup_cons.1 this).1 (List.mem_map.2 ⟨y,List.mem_filter.2 ⟨hy,by simp [e1]⟩,e⟩)
  ·have:=hn j
   rw [List.filter_cons] at this
   split at this
   ·rw [List.map_cons] at this;exact (List.nodup_cons.1 this).2
   ·exact this
theorem nodup_inj:∀ {l:List Nat} {i j v:Nat},l.Nodup→l[i]?=some v→l[j]?=some v→i=j
 | [],i,j,v,_,h,_=>by simp at h
 | a::l,0,0,v,_,_,_=>rfl
 | a::l,0,j+1,v,hn,hi,hj=>by
  simp at hi;subst hi
  exact ((List.nodup_cons.1 hn).1 (List.mem_of_getElem? (by simpa using hj))).elim
 | a::l,i+1,0,v,hn,hi,hj=>by
  simp at hj;subst hj
  exact ((List.nodup_cons.1 hn).1 (List.mem_of_getElem? (by simpa using hi))).elim
 | a::l,i+1,j+1,v,hn,hi,hj=>congrArg (·+1) (nodup_inj (v:=v) (List.nodup_cons.1 hn).2 (by simpa using hi) (by simpa using hj))
theorem prs_of {ps:List (List Nat)} {l:List Nat} {k i v:Nat} (h1:ps[k]?=some l) (h2:l[i]?=some v):((v,(k,i)):KE)∈prs ps:=by
 refine List.mem_flatten.2 ⟨ents k l,List.mem_of_getElem? (i:=k) (by rw [List.getElem?_mapIdx,h1];rfl),?_⟩
 exact List.mem_of_getElem? (i:=i) (by unfold ents;rw [List.getElem?_mapIdx,h2];rfl)
end
section
theorem nodup_flat:∀ {L:List (List Nat)},(∀ l∈L,l.Nodup)→(∀ (i j:Nat) l l' v,L[i]?=some l→L[j]?=some l'→v∈l→v∈l'→i=j)→L.flatten.Nodup
 | [],_,_=>List.nodup_nil
 | l::L,h1,h2=>by
  rw [List.flatten_cons]
  refine List.nodup_append.2 ⟨h1 l (by simp),nodup_flat (fun l' h=>h1 l' (by simp [h])) (fun i j a b v hi hj ha hb=>?_),fun a ha b hb e=>?_⟩
  ·have:=h2 (i+1) (j+1) a b v (by simpa using hi) (by simpa using hj) ha hb;omega
  ·subst e
   obtain ⟨l',h3,h4⟩:=List.mem_flatten.1 hb
   obtain ⟨i,hi⟩:=List.mem_iff_getElem?.1 h3
   have:=h2 0 (i+1) l l' a rfl (by simpa using hi) ha h4;omega
section
variable {s:QS}
theorem taken_at {j v:Nat} (h:v∈takenBy s j):∃ t:Nat,s.tk[t]?=some j∧(s.vs.map (·.2))[t]?=some v:=by
 unfold takenBy at h
 obtain ⟨x,hx,rfl⟩:=List.mem_map.1 h
 obtain ⟨h1,h2⟩:=List.mem_filter.1 hx
 obtain ⟨t,ht⟩:=List.mem_iff_getElem?.1 h1
 obtain ⟨a,b⟩:=x
 rw [List.getElem?_zip_eq_some] at ht
 simp only [decide_eq_true_eq] at h2
 subst h2
 exact ⟨t,ht.1,by rw [List.getElem?_map,ht.2];rfl⟩
theorem at_taken {t j v:Nat} (h1:s.tk[t]?=some j) (h2:(s.vs.map (·.2))[t]?=some v):v∈takenBy s j:=by
 rw [List.getElem?_map] at h2
 obtain ⟨x,hx,rfl⟩:=Option.map_eq_some_iff.1 h2
 unfold takenBy
 refine List.mem_map.2 ⟨(j,x),List.mem_filter.2 ⟨List.mem_of_getElem? (i:=t) (List.getElem?_zip_eq_some.2 ⟨h1,hx⟩),by simp⟩,rfl⟩
theorem left_at {v:Nat} (h:v∈qLeft s):∃ t:Nat,s.tk.length≤t∧(s.vs.map (·.2))[t]?=some v:=by
 unfold qLeft at h
 obtain ⟨i,hi⟩:=List.mem_iff_getElem?.1 h
 rw [List.getElem?_map,List.getElem?_drop] at hi
 exact ⟨s.tk.length+i,by omega,by rw [List.getElem?_map];exact hi⟩
theorem at_left {t v:Nat} (h1:s.tk.length≤t) (h2:(s.vs.map (·.2))[t]?=some v):v∈qLeft s:=by
 unfold qLeft
 refine List.mem_of_getElem? (i:=t-s.tk.length) ?_
 rw [List.getElem?_map,List.getElem?_drop,show s.tk.length+(t-s.tk.length)=t by omega]
 rw [List.getElem?_map] at h2;exact h2
theorem taken_sub (j:Nat):(takenBy s j).Sublist (s.vs.map (·.2)):=by
 unfold takenBy
 have h1:((List.zip s.tk s.vs).map (·.2.2)).Sublist (s.vs.map (·.2)):=by
  have:(List.zip s.tk s.vs).map (·.2)=s.vs.take s.tk.length∨True:=.inr trivial
  have key:∀ (a:List Nat) (b:List (Nat × Nat)),((List.zip a b).map (·.2.2)).Sublist (b.map (·.2)):=by
   intro a
   induction a with
   | nil=>intro b;simp
   | cons x a ih =>
    intro b
    cases b with
    | nil=>simp
    | cons y b=>simp only [List.zip_cons_cons,List.map_cons];exact (ih b).cons_cons _
  exact key _ _
 exact (List.filter_sublist.map _).trans h1
theorem left_sub:(qLeft s).Sublist (s.vs.map (·.2)):=by unfold qLeft;exact (List.drop_sublist _ _).map _
theorem put_sub (j:Nat):(putBy s j).Sublist (s.vs.map (·.2)):=by unfold putBy;exact List.filter_sublist.map _
theorem put_at {p q:List (Nat × Nat)} {x:Nat × Nat} (e:s.vs=p++x::q):(putBy s x.1)[cnt p x.1]?=some x.2:=by
 unfold putBy cnt
 rw [e,List.filter_append,List.map_append,List.getElem?_append_right (by simp),List.length_map,Nat.sub_self,List.filter_cons,if_pos (by simp)]
 rfl
def qPs (s:QS) (pn:Nat):List (List Nat):=(List.range pn).map (putBy s)
def qTs (s:QS) (off tn:Nat):List (List Nat):=(List.range tn).map fun k=>takenBy s (off+k)
theorem q_kept {n Bd m pn off tn:Nat} {qs:List QT} {o:Nat→List Nat} {T:Nat→Prop} {key:Nat→Nat} (h:QI n Bd s qs) (e:QE m o T s qs) (hd:∀ q∈qs,q.cs=[]) (ho:∀ j,(o j).Nodup∧(∀ v∈o j,key v=j)∧(pn≤j→o j=[])) (hT:∀ j,j<m→T j→off≤j∧j<off+tn) :
  KeptA (prs (qPs s pn)) (qTs s off tn++[qLeft s])∧(qPs s pn).flatten.Nodup∧(∀ v∈(qPs s pn).flatten,∃ j,v∈o j)∧(∀ l∈qTs s off tn++[qLeft s],l.length≤Bd)∧(qPs s pn).flatten.length≤pn*Bd:=by
 have hbd:=h.bd
 have hput:∀ j,j<m→(putBy s j).Sublist (o j):=fun j hj=>by
  have hlt:j<qs.length:=by rw [e.len];exact hj
  have hq:=List.getElem?_eq_getElem hlt
  have hc:=hd _ (List.getElem_mem hlt)
  have e1:=h.pas j _ hq
  have e2:pendP (qs[j])=[]:=by unfold pendP;rw [hc]
  rw [e2,List.append_nil] at e1
  obtain ⟨_,e3,_⟩:=e.sub j _ hq
  rw [hc] at e3
  rw [e1];simpa using e3
 have hmemp:∀ x∈s.vs,x.2∈putBy s x.1:=fun x hx=>by
  unfold putBy;exact List.mem_map.2 ⟨x,List.mem_filter.2 ⟨hx,by simp⟩,rfl⟩
 have hino:∀ x∈s.vs,x.2∈o x.1:=fun x hx=>(hput x.1 (e.own x hx)).subset (hmemp x hx)
 have hown:∀ x∈s.vs,x.1<pn:=fun x hx=>Nat.lt_of_not_le fun hle=>by have:=hino x hx;rw [(ho x.1).2.2 hle] at this;simp at this
 have hnd:(s.vs.map (·.2)).Nodup:=nodup_by (key:=key) (fun x hx=>(ho x.1).2.1 _ (hino x hx)) fun j=>by
  by_cases hj:j<m
  ·exact (ho j).1.sublist (hput j hj)
  ·have:s.vs.filter (fun x=>decide (x.1=j))=[]:=List.filter_eq_nil_iff.2 fun x hx=>by have:=e.own x hx;simp;omega
   rw [this];exact List.nodup_nil
 have hls:∀ (i:Nat) l,(qTs s off tn++[qLeft s])[i]?=some l→(i<tn∧l=takenBy s (off+i))∨(i=tn∧l=qLeft s):=fun i l hi=>by
  have hl:(qTs s off tn).length=tn:=by simp [qTs]
  rcases Nat.lt_or_ge i tn with hlt | hge
  ·rw [List.getElem?_append_left (by omega)] at hi
   unfold qTs at hi
   rw [List.getElem?_map,List.getElem?_range hlt] at hi
   exact .inl ⟨hlt,(Option.some.inj hi).symm⟩
  ·rw [List.getElem?_append_right (by omega)] at hi
   have:i-(qTs s off tn).length=0:=by have:=(List.getElem?_eq_some_iff.1 hi).1;simp at this;omega
   rw [this] at hi
   exact .inr ⟨by omega,(Option.some.inj hi).symm⟩
 have hsub:∀ l∈qTs s off tn++[qLeft s],l.Sublist (s.vs.map (·.2)):=fun l hl=>by
  obtain ⟨i,hi⟩:=List.mem_iff_getElem?.1 hl
  rcases hls i l hi with ⟨_,rfl⟩ | ⟨_,rfl⟩
  ·exact taken_sub _
  ·exact left_sub
 have hcov:∀ v∈s.vs.map (·.2),v∈(qTs s off tn++[qLeft s]).flatten:=fun v hv=>by
  obtain ⟨t,ht⟩:=List.mem_iff_getElem?.1 hv
  by_cases hlt:t<s.tk.length
  ·obtain ⟨j,hj⟩:∃ j,s.tk[t]?=some j:=⟨_,List.getElem?_eq_getElem hlt⟩
   obtain ⟨h1,h2⟩:=e.tak j (List.mem_of_getElem? hj)
   obtain ⟨h3,h4⟩:=hT j h1 h2
   refine List.mem_flatten.2 ⟨takenBy s j,List.mem_append.2 (.inl ?_),at_taken hj ht⟩
   unfold qTs
   exact List.mem_map.2 ⟨j-off,List.mem_range.2 (by omega),by rw [show off+(j-off)=j by omega]⟩
  ·exact List.mem_flatten.2 ⟨qLeft s,by simp,at_left (by omega) ht⟩
 have hfl:(qTs s off tn++[qLeft s]).flatten.Nodup:=nodup_flat (fun l hl=>hnd.sublist (hsub l hl)) fun i j l l' v hi hj hv hv'=>by
  rcases hls i l hi with ⟨g1,rfl⟩ | ⟨g1,rfl⟩ <;> rcases hls j l' hj with ⟨g2,rfl⟩ | ⟨g2,rfl⟩
  ·obtain ⟨t1,a1,b1⟩:=taken_at hv
   obtain ⟨t2,a2,b2⟩:=taken_at hv'
   obtain rfl:=nodup_inj hnd b1 b2
   rw [a1] at a2;have:=Option.some.inj a2;omega
  ·obtain ⟨t1,a1,b1⟩:=taken_at hv
   obtain ⟨t2,a2,b2⟩:=left_at hv'
   obtain rfl:=nodup_inj hnd b1 b2
   have:=(List.getElem?_eq_some_iff.1 a1).1;omega
  ·obtain ⟨t1,a1,b1⟩:=left_at hv
   obtain ⟨t2,a2,b2⟩:=taken_at hv'
   obtain rfl:=nodup_inj hnd b1 b2
   have:=(List.getElem?_eq_some_iff.1 a2).1;omega
  ·omega
 have hps:∀ (k:Nat) l,(qPs s pn)[k]?=some l→k<pn∧l=putBy s k:=fun k l hk=>by
  unfold qPs at hk
  rw [List.getElem?_map] at hk
  obtain ⟨k',h1,rfl⟩:=Option.map_eq_some_iff.1 hk
  have hlt:=(List.getElem?_eq_some_iff.1 h1).1
  rw [List.length_range] at hlt
  rw [List.getElem?_range hlt] at h1
  cases h1;exact ⟨hlt,rfl⟩
 refine ⟨keptA_of hnd hsub hfl (fun y hy=>?_) fun p x q ee hx=>?_,nodup_flat (fun l hl=>?_) fun i j l l' v hi hj hv hv'=>?_,fun v hv=>?_,fun l hl=>?_,?_⟩
 ·obtain ⟨l,h1,h2⟩:=prs_mem hy
  obtain ⟨_,rfl⟩:=hps _ _ h1
  exact hcov _ ((put_sub _).subset (List.mem_of_getElem? h2))
 ·have hx':x∈s.vs:=by rw [ee];simp
  exact prs_of (l:=putBy s x.1) (by unfold qPs;rw [List.getElem?_map,List.getElem?_range (hown x hx')];rfl) (put_at ee)
 ·obtain ⟨k,hk⟩:=List.mem_iff_getElem?.1 hl
  obtain ⟨_,rfl⟩:=hps k l hk
  exact hnd.sublist (put_sub k)
 ·obtain ⟨_,rfl⟩:=hps i l hi
  obtain ⟨_,rfl⟩:=hps j l' hj
  unfold putBy at hv hv'
  obtain ⟨x,hx,e1⟩:=List.mem_map.1 hv
  obtain ⟨y,hy,e2⟩:=List.mem_map.1 hv'
  obtain ⟨x1,x2⟩:=List.mem_filter.1 hx
  obtain ⟨y1,y2⟩:=List.mem_filter.1 hy
  have k1:=(ho x.1).2.1 _ (hino x x1)
  have k2:=(ho y.1).2.1 _ (hino y y1)
  simp only [decide_eq_true_eq] at x2 y2
  rw [e1] at k1;rw [e2] at k2
  omega
 ·obtain ⟨l,hl,hv⟩:=List.mem_flatten.1 hv
  obtain ⟨k,hk⟩:=List.mem_iff_getElem?.1 hl
  obtain ⟨_,rfl⟩:=hps k l hk
  unfold putBy at hv
  obtain ⟨x,hx,e1⟩:=List.mem_map.1 hv
  exact ⟨x.1,by rw [← e1];exact hino x (List.mem_filter.1 hx).1⟩
 ·have:=(hsub l hl).length_le
  rw [List.length_map] at this;omega
 ·have key:∀ k,((List.range k).map (putBy s)).flatten.length≤k*Bd:=fun k=>by
   induction k with
   | zero=>simp
   | succ k ih =>
    rw [List.range_succ,List.map_append,List.flatten_append,List.length_append,Nat.succ_mul]
    have:=(put_sub (s:=s) k).length_le
    rw [List.length_map] at this
    simp only [List.map_cons,List.map_nil,List.flatten_cons,List.flatten_nil,List.append_nil]
    omega
  exact key pn
end
end
end Go.Proofs.Ytmkkanmkjfnpdaa
