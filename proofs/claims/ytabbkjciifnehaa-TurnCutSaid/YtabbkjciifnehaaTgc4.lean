/-
  Part 4 of 7.
-/
import Derived.Test.YtabbkjciifnehaaTgc3
import Derived.Test.YtabbkjciifnehaaTgc2
set_option linter.unusedVariables false
set_option linter.unusedSimpArgs false
namespace Go.PB
theorem zip_set {α β γ:Type} {f:α→β→γ} {b:β}:∀ {k:Nat} {xs:List α} {ys:List β} {a:α},xs[k]?=some a→List.zipWith f xs (ys.set k b)=(List.zipWith f xs ys).set k (f a b)
 | _,[],_,_,h=>by simp at h
 | _,x::xs,[],_,_=>rfl
 | 0,x::xs,y::ys,a,h=>by simp at h;subst h;rfl
 | k+1,x::xs,y::ys,a,h=>by simp only [List.set_cons_succ,List.zipWith_cons_cons];rw [zip_set (by simpa using h)]
theorem set_same {α:Type} {l:List α} {k:Nat} {a:α} (h:l[k]?=some a):l.set k a=l:=by
 obtain ⟨h1,h2⟩:=List.getElem?_eq_some_iff.1 h
 subst h2
 exact List.set_getElem_self h1
end Go.PB
namespace Go.Proofs.Ytabbkjciifnehaa
open Go Go.PB
attribute [local irreducible] Mo Bin Eql Tr Wo Ap Wle
structure PS (g:Game) where
 s:g.σ
 qs:List g.θ
 tr:List (Nat × (Int × Int))
def takeF {g:Game} (p:PS g) (k:Int):PS g × Bool :=
 if k<0 then (p,false) else
 match p.qs[k.toNat]? with
 | none=>(p,false)
 | some q=>match g.plan q with
  | none=>(p,false)
  | some (m,f)=>if p.tr.length=16384 then (p,false) else (⟨(f p.s).1,p.qs.set k.toNat (f p.s).2,p.tr++[(k.toNat,m)]⟩,true)
structure SId where
 sb:Nat
 says:Nat
 turn:Nat
 fin:Nat
def trCP (tr:List (Nat × (Int × Int))):List Value:=(tr.map fun t=>[.int .i64 (t.1:Nat),.int .u8 t.2.1,.int .i64 t.2.2]).flatten
theorem trCP_len {tr:List (Nat × (Int × Int))}:(trCP tr).length=tr.length*3:=flat_len (f:=fun t:Nat × (Int × Int)=>[Value.int .i64 (t.1:Nat),.int .u8 t.2.1,.int .i64 t.2.2]) (k:=3) (fun _=>rfl) tr
theorem trCP_app {tr:List (Nat × (Int × Int))} {k:Nat} {m:Int × Int}:trCP (tr++[(k,m)])=trCP tr++[.int .i64 (k:Nat),.int .u8 m.1,.int .i64 m.2]:=by simp [trCP]
def ptrs (ids:List SId):List Value:=ids.map fun i=>.pointer (some ⟨i.sb,0,none⟩)
abbrev lastQ (g:Game) (q:g.θ):List Value:=lastC ((g.plan q).map (·.1))
def seatC (g:Game) (i:SId) (q:g.θ):HProp:=all [seatR i.sb i.says i.turn i.fin,arr i.sb 3 (lastQ g q)]
def seatCs (g:Game) (ids:List SId) (qs:List g.θ):List HProp:=List.zipWith (seatC g) ids qs
def seatS {g:Game} (i:SId) (q:g.θ):Seat g.σ g.θ:=⟨i.says,i.turn,i.fin,.said q⟩
def seatSs {g:Game} (ids:List SId) (qs:List g.θ):List (Seat g.σ g.θ):=List.zipWith seatS ids qs
section
variable {g:Game} {wg pb:Nat} {ss ts cs:Value} {ids:List SId} {p:PS g} {F:List HProp}
abbrev playL (g:Game) (pb:Nat) (ss ts cs:Value) (ids:List SId) (p:PS g) (F:List HProp):List HProp :=
 g.U p.s::arr pb 0 [ss,ts,cs]::vec 1 ss (ptrs ids)::vec 3 ts (trCP p.tr)::all (seatCs g ids p.qs)::F
abbrev playX (g:Game) (wg:Nat) (ids:List SId) (p:PS g):MX:=gx g wg (seatSs ids p.qs) (some p.s) (16384-p.tr.length) ids.length
theorem takeF_len (k:Int):(takeF p k).1.qs.length=p.qs.length:=by
 unfold takeF
 split
 ·rfl
 split
 ·rfl
 split
 ·rfl
 split
 ·rfl
 ·simp
theorem takeF_le (h:p.tr.length≤16384) (k:Int):(takeF p k).1.tr.length≤16384:=by
 unfold takeF
 split
 ·exact h
 split
 ·exact h
 split
 ·exact h
 split
 ·exact h
 ·simp;omega
theorem take_out {k:Int} (hl:ids.length=p.qs.length) (hk:k<0∨(ids.length:Int)≤k) :
  Tr Try.prog mT 48 [.pointer (some ⟨pb,0,none⟩),.int .i64 k] (playL g pb ss ts cs ids p F) (playX g wg ids p) fun v L' x'=>v=.bool false∧L'=playL g pb ss ts cs ids p F∧x'=playX g wg ids p:=by
 refine tr_pure (of_has (.there (.there .here)) (vec_shape (by omega))) ?_
 rintro ⟨a,n,c,rfl,hn,_⟩
 have hn:n=ids.length:=by simp [ptrs] at hn;omega
 subst hn
 by_cases h0:k<0
 ·refine tr_of_body Try.func48 rfl Try.ntmps48 (by simp) fun um Q _ hQ=>?_
  simp only [argE,Nat.zero_add,Nat.reduceAdd]
  repeat (first | refine wlssT ?_ | refine we_seq ?_ | (refine wR ?_;try simp only [oS]) | refine wo_nil ?_ | refine wM ?_ | refine wA ?_ | (apply wo_no;exact rfl) | refine wK ?_ | refine wT ?_ | refine we_ret ?_)
  (first | refine or1 Try.func48 Try.results48 hQ rfl ?_ | refine on1 Try.func48 Try.results48 hQ rfl ?_)
  exact ⟨rfl,rfl,rfl⟩
 ·refine tr_of_body Try.func48 rfl Try.ntmps48 (by simp) fun um Q _ hQ=>?_
  simp only [argE,Nat.zero_add,Nat.reduceAdd]
  repeat (first | refine wlssF ?_ | refine wgeqT ?_ | refine we_seq ?_ | (refine wR ?_;try simp only [oS]) | refine wo_nil ?_ | refine wM ?_ | refine wA ?_ | (apply wo_no;exact rfl) | refine wK ?_ | refine wJ ?_ | refine wN ?_ | refine wD ?_ | refine wL ?_ | refine wE ?_ | refine wT ?_ | refine we_ret ?_)
  (first | refine or1 Try.func48 Try.results48 hQ rfl ?_ | refine on1 Try.func48 Try.results48 hQ rfl ?_)
  exact ⟨rfl,rfl,rfl⟩
theorem seat_pick {k:Nat} {i:SId} {q:g.θ} {L:List HProp} {h:Hp} (hi:ids[k]?=some i) (hq:p.qs[k]?=some q) (st:Star (all (seatCs g ids p.qs)::L) h) :
  Star (seatR i.sb i.says i.turn i.fin::arr i.sb 3 (lastQ g q)::all ((seatCs g ids p.qs).eraseIdx k)::L) h:=by
 have e:(seatCs g ids p.qs)[k]?=some (seatC g i q):=by simp [seatCs,List.getElem?_zipWith,hi,hq]
 exact star_open (M:=[_,_]) (star_pick e st)
theorem seat_put {k:Nat} {i:SId} {q q':g.θ} {L:List HProp} {h:Hp} (hi:ids[k]?=some i) (hq:p.qs[k]?=some q) (st:Star (seatR i.sb i.says i.turn i.fin::arr i.sb 3 (lastQ g q')::all ((seatCs g ids p.qs).eraseIdx k)::L) h) :
  Star (all (seatCs g ids (p.qs.set k q'))::L) h:=by
 have hlt:k<(seatCs g ids p.qs).length:=by
  have h1:=(List.getElem?_eq_some_iff.1 hi).1
  have h2:=(List.getElem?_eq_some_iff.1 hq).1
  simp [seatCs];omega
 have e:seatCs g ids (p.qs.set k q')=(seatCs g ids p.qs).set k (seatC g i q'):=zip_set hi
 rw [e]
 exact star_put hlt (star_shut (M:=[_,_]) st)
theorem take_no {k:Nat} {i:SId} {q:g.θ} (hi:ids[k]?=some i) (hq:p.qs[k]?=some q) (hno:g.plan q=none∨p.tr.length=16384) :
  Tr Try.prog mT 48 [.pointer (some ⟨pb,0,none⟩),.int .i64 (k:Nat)] (playL g pb ss ts cs ids p F) (playX g wg ids p) fun v L' x'=>v=.bool false∧L'=playL g pb ss ts cs ids p F∧x'=playX g wg ids p:=by
 have hk:=(List.getElem?_eq_some_iff.1 hi).1
 refine tr_pure (of_has (.there (.there .here)) (vec_shape (by omega))) ?_
 rintro ⟨a,n,c,rfl,hn,_,hnz,hy⟩
 have hn:n=ids.length:=by simp [ptrs] at hn;omega
 subst hn
 refine tr_pure (of_has (.there (.there (.there .here))) (vec_shape (by omega))) ?_
 rintro ⟨ta,tn,tc,rfl,htn,_⟩
 have htn:tn=p.tr.length:=by rw [trCP_len] at htn;omega
 subst htn
 cases a with
 | none=>have:=hnz rfl;omega
 | some ad =>
 obtain ⟨b,o,sp⟩:=ad
 have:=hy _ rfl
 simp only [Addr.mk.injEq,true_and] at this
 subst this
 refine Tr.post (R:=fun v L' x'=>v=.bool false∧x'=playX g wg ids p∧∀ h,Star L' h→Star (playL g pb (.slice (some ⟨b,o,none⟩) ids.length c) (.slice ta p.tr.length tc) cs ids p F) h) ?_
  (by rintro v L' x' ⟨rfl,rfl,h2⟩;exact ⟨_,⟨rfl,rfl,rfl⟩,h2⟩)
 let L1:List HProp:=seatR i.sb i.says i.turn i.fin::arr i.sb 3 (lastQ g q)::all ((seatCs g ids p.qs).eraseIdx k)::g.U p.s::arr pb 0 [.slice (some ⟨b,o,none⟩) ids.length c,.slice ta p.tr.length tc,cs]::vec 1 (.slice (some ⟨b,o,none⟩) ids.length c) (ptrs ids)::vec 3 (.slice ta p.tr.length tc) (trCP p.tr)::F
 refine tr_star L1 (fun h st=>seat_pick hi hq (((.there (.there (.there (.there .here)))):Has (playL g pb _ _ cs ids p F) _ _).star st)) ?_
 have hback:∀ h,Star L1 h→Star (playL g pb (.slice (some ⟨b,o,none⟩) ids.length c) (.slice ta p.tr.length tc) cs ids p F) h:=fun h st=>by
  have s1:=seat_put (q':=q) hi hq st
  have e:p.qs.set k q=p.qs:=set_same hq
  rw [e] at s1
  exact Ent.star (.take (.there .here) (.take (.there .here) (.take (.there .here) (.take (.there .here) (.take .here .refl))))) s1
 have rs:Rd L1 b (o+k) (.pointer (some ⟨i.sb,0,none⟩)):=rd_vec (cs:=ptrs ids) (.there (.there (.there (.there (.there .here))))) (by simp [ptrs,hi])
 have hlast:∃ m1 m2 q3,lastQ g q=[.int .u8 m1,.int .i64 m2,.bool q3]∧(q3=true∨(q3=false∧p.tr.length=16384)):=by
  unfold lastQ
  cases hp:g.plan q with
  | none=>exact ⟨_,_,_,rfl,.inl rfl⟩
  | some mf =>
   refine ⟨_,_,_,rfl,.inr ⟨rfl,hno.resolve_left (by rw [hp];simp)⟩⟩
 obtain ⟨m1,m2,q3,hl,hq3⟩:=hlast
 have rl:Rd L1 i.sb 5 (.bool q3):=Rd.of (.there .here) (by rw [hl];exact Rd.row (k:=2) rfl rfl)
 rcases hq3 with rfl | ⟨rfl,htr⟩
 ·refine tr_of_body Try.func48 rfl Try.ntmps48 (by simp) fun um Q _ hQ=>?_
  simp only [argE,Nat.zero_add,Nat.reduceAdd]
  repeat (first | (apply wo_po;apply mo_index1;exact rfl;exact rfl;omega;exact gY) | (apply wo_po;apply mo_load;exact rfl;(first | exact rs | exact rl | exact Rd.of (.there (.there (.there (.there .here)))) (Rd.row0 rfl));exact gY) | refine wlssF ?_ | refine wgeqF ?_ | refine we_seq ?_ | (refine wR ?_;try simp only [oS]) | refine wo_nil ?_ | refine wM ?_ | refine wA ?_ | (apply wo_no;exact rfl) | refine wK ?_ | refine wJ ?_ | refine wN ?_ | refine wD ?_ | refine wE ?_ | refine wT ?_ | refine we_ret ?_)
  (first | refine or1 Try.func48 Try.results48 hQ rfl ?_ | refine on1 Try.func48 Try.results48 hQ rfl ?_)
  exact ⟨rfl,rfl,hback⟩
 ·refine tr_of_body Try.func48 rfl Try.ntmps48 (by simp) fun um Q _ hQ=>?_
  simp only [argE,Nat.zero_add,Nat.reduceAdd]
  repeat (first | (apply wo_po;apply mo_index1;exact rfl;exact rfl;omega;exact gY) | (apply wo_po;apply mo_load;exact rfl;(first | exact rs | exact rl | exact Rd.of (.there (.there (.there (.there .here)))) (Rd.row0 rfl));exact gY) | refine wlssF ?_ | refine wgeqF ?_ | refine weqlT ?_ | refine we_seq ?_ | (refine wR ?_;try simp only [oS]) | refine wo_nil ?_ | refine wM ?_ | refine wA ?_ | refine wJ ?_ | refine wN ?_ | refine wD ?_ | refine wE ?_ | refine wT ?_ | refine we_ret ?_)
  (first | refine or1 Try.func48 Try.results48 hQ rfl ?_ | refine on1 Try.func48 Try.results48 hQ rfl ?_)
  exact ⟨rfl,rfl,hback⟩
theorem take_yes {k:Nat} {i:SId} {q:g.θ} {m:Int × Int} {f:g.σ→g.σ × g.θ} (hl:ids.length=p.qs.length) (hi:ids[k]?=some i) (hq:p.qs[k]?=some q) (hpl:g.plan q=some (m,f)) (htr:p.tr.length<16384) (hok:g.ok p.s) :
  Tr Try.prog mT 48 [.pointer (some ⟨pb,0,none⟩),.int .i64 (k:Nat)] (playL g pb ss ts cs ids p F) (playX g wg ids p) fun v L' x'=>∃ ts',v=.bool true∧L'=playL g pb ss ts' cs ids ⟨(f p.s).1,p.qs.set k (f p.s).2,p.tr++[(k,m)]⟩ F∧x'=playX g wg ids ⟨(f p.s).1,p.qs.set k (f p.s).2,p.tr++[(k,m)]⟩:=by
 have hk:=(List.getElem?_eq_some_iff.1 hi).1
 refine tr_pure (of_has (.there (.there .here)) (vec_shape (by omega))) ?_
 rintro ⟨a,n,c,rfl,hn,_,hnz,hy⟩
 have hn:n=ids.length:=by simp [ptrs] at hn;omega
 subst hn
 refine tr_pure (of_has (.there (.there (.there .here))) (vec_shape (by omega))) ?_
 rintro ⟨ta,tn,tc,rfl,htn,_⟩
 have htn:tn=p.tr.length:=by rw [trCP_len] at htn;omega
 subst htn
 cases a with
 | none=>have:=hnz rfl;omega
 | some ad =>
 obtain ⟨b,o,sp⟩:=ad
 have:=hy _ rfl
 simp only [Addr.mk.injEq,true_and] at this
 subst this
 refine Tr.post (R:=fun v L' x'=>∃ ts',v=.bool true∧x'=playX g wg ids ⟨(f p.s).1,p.qs.set k (f p.s).2,p.tr++[(k,m)]⟩∧∀ h,Star L' h→Star (playL g pb (.slice (some ⟨b,o,none⟩) ids.length c) ts' cs ids ⟨(f p.s).1,p.qs.set k (f p.s).2,p.tr++[(k,m)]⟩ F) h) ?_
  (by rintro v L' x' ⟨ts',rfl,rfl,h2⟩;exact ⟨_,⟨ts',rfl,rfl,rfl⟩,h2⟩)
 have hlq:lastQ g q=[.int .u8 m.1,.int .i64 m.2,.bool false]:=by unfold lastQ;rw [hpl];rfl
 let er:=all ((seatCs g ids p.qs).eraseIdx k)
 let L1:List HProp:=seatR i.sb i.says i.turn i.fin::arr i.sb 3 [.int .u8 m.1,.int .i64 m.2,.bool false]::arr pb 0 [.slice (some ⟨b,o,none⟩) ids.length c,.slice ta p.tr.length tc,cs]::vec 3 (.slice ta p.tr.length tc) (trCP p.tr)::vec 1 (.slice (some ⟨b,o,none⟩) ids.length c) (ptrs ids)::g.U p.s::er::F
 refine tr_star L1 (fun h st=>by have:=seat_pick hi hq (((.there (.there (.there (.there .here)))):Has (playL g pb _ _ cs ids p F) _ _).star st);rw [hlq] at this;exact Ent.star (.take .here (.take .here (.take (.there (.there .here)) (.take (.there (.there (.there .here))) (.take (.there (.there .here)) (.take (.there .here) (.take .here .refl))))))) this) ?_
 have rs:Rd L1 b (o+k) (.pointer (some ⟨i.sb,0,none⟩)):=rd_vec (cs:=ptrs ids) (.there (.there (.there (.there .here)))) (by simp [ptrs,hi])
 have rl:Rd L1 i.sb 5 (.bool false):=.there (Rd.row (k:=2) rfl rfl)
 have rt:Rd L1 i.sb 0 (.chan (some i.turn)):=Rd.fro (k:=0) rfl rfl
 have hsz:(seatSs ids p.qs).length=ids.length:=by simp [seatSs];omega
 have hsk:(seatSs ids p.qs)[k]?=some (⟨i.says,i.turn,i.fin,.said q⟩:Seat g.σ g.θ):=by simp [seatSs,List.getElem?_zipWith,hi,hq,seatS]
 refine tr_of_body Try.func48 rfl Try.ntmps48 (by simp) fun um Q _ hQ=>?_
 simp only [argE,Nat.zero_add,Nat.reduceAdd]
 repeat (first | (apply wo_po;apply mo_index1;exact rfl;exact rfl;omega;exact gY) | (apply wo_po;apply mo_load;exact rfl;(first | exact rs | exact rl | exact Rd.of (.there (.there .here)) (Rd.row0 rfl));exact gY) | refine wlssF ?_ | refine wgeqF ?_ | refine weqlF ?_ | refine we_seq ?_ | (refine wR ?_;try simp only [oS]) | refine wo_nil ?_ | refine wM ?_ | refine wA ?_ | refine wJ ?_ | refine wN ?_ | refine wD ?_ | refine wE ?_ | refine wF ?_ | refine we_skip ?_)
 refine we_draw (List.range' 0 19) (by kernel_rfl) ?_
 repeat (first | (apply ap_read;exact rfl;exact rfl;exact trivial;apply mo_load;exact rfl;exact Rd.of (.there (.there .here)) (Rd.row0 rfl)) | (apply ap_read;exact rfl;exact rfl;exact trivial;apply mo_loadA (vs:=[.int .u8 m.1,.int .i64 m.2]);exact rfl;exact rfl;exact Rds.row (k:=0) (.there .here) (by intro i v hv;match i,hv with | 0,hv=>exact hv | 1,hv=>exact hv)) | (apply ap_pure;exact rfl;exact rfl;exact trivial;intro L;apply mo_build (pv:=[(0,_),(1,_)]);exact rfl;exact .cons rfl (.cons rfl .nil);exact rfl) | refine aM ?_ | refine aN ?_ | refine aD ?_)
 have hone:∀ v∈[Value.int .i64 (k:Nat),.int .u8 m.1,.int .i64 m.2],one v=true:=by intro v hv;simp at hv;rcases hv with rfl | rfl | rfl <;> rfl
 refine ap_loudR rfl rfl rfl rfl trivial (mo_buildSlice (sz:=3) (vs:=[.agg #[.int .i64 (k:Nat),.int .u8 m.1,.int .i64 m.2]]) rfl (.cons rfl .nil) rfl (by intro v hv;cases (List.mem_singleton.1 hv);exact rfl) (by omega)) ?_ ?_
 ·rintro v L ⟨nb,rfl,rfl⟩ p hp
  replace hp:=(List.mem_filter.1 hp).1
  simp only [List.mem_cons,List.not_mem_nil,or_false] at hp
  rcases hp with rfl | rfl | rfl | rfl | rfl | rfl | rfl | rfl | rfl | rfl | rfl | rfl | rfl <;> first | exact .inl rfl | exact .inr ⟨_,rfl,trivial,mo_load rfl (Rd.of (.there (.there (.there .here))) (Rd.row0 rfl))⟩ | exact .inr ⟨_,rfl,trivial,mo_loadA rfl rfl (Rds.row (k:=0) (.there (.there .here)) (by intro i v hv;match i,hv with | 0,hv=>exact hv | 1,hv=>exact hv))⟩
 rintro v' L' ⟨nb,rfl,rfl⟩
 refine ap_loud rfl rfl rfl rfl rfl trivial (mo_append (sz:=3) (new:=[.int .i64 (k:Nat),.int .u8 m.1,.int .i64 m.2]) rfl rfl rfl rfl (.there (.there (.there (.there .here)))) rfl (.inr ⟨_,_,rfl,Rds.all .here⟩) hone (by simp only [sliceLen];omega)) ?_
 rintro v' L' rfl
 refine ap_know (of_has .here (vec_shape (by omega))) ?_
 rintro ⟨ua,un,uc,rfl,_⟩
 repeat (first | refine aN ?_ | refine aD ?_)
 refine ap_loud rfl rfl rfl rfl rfl trivial (mo_store rfl rfl rfl (Wt.row0 (k:=1) (.there (.there (.there (.there .here)))) (Nat.lt_of_sub_eq_succ rfl))) ?_
 rintro v' L' ⟨rfl,rfl⟩
 refine ap_end ?_
 have rt2:∀ {A C D:HProp} {M:List HProp},Rd (A::C::seatR i.sb i.says i.turn i.fin::D::M) i.sb 0 (.chan (some i.turn)):=.there (.there (Rd.fro (k:=0) rfl rfl))
 repeat (first | (apply wo_po;apply mo_load;exact rfl;exact rt2;exact gY) | (apply wo_po;apply mo_build (pv:=[]);exact rfl;exact .nil;exact rfl;exact trivial) | refine we_seq ?_ | (refine wR ?_;try simp only [oS]) | refine wM ?_ | refine wN ?_ | refine wD ?_)
 refine wo_turn (X:=⟨g,wg,seatSs ids p.qs,some p.s,16384-p.tr.length,ids.length,false,.play,none,0⟩) (j:=k) (lf:=16384-(p.tr.length+1)) (c:=⟨i.says,i.turn,i.fin,.said q⟩) (s:=p.s) (q:=q) rfl rfl rfl rfl hsk rfl hpl rfl (by show 16384-p.tr.length=_;omega) (by show ids.length=_;rw [hsz]) hok (.there (.there (.there (.there (.there (.there .here)))))) trivial ?_
 have rs2:∀ {A C D:HProp} {M:List HProp},Rd (A::C::seatR i.sb i.says i.turn i.fin::D::M) i.sb 2 (.chan (some i.says)):=.there (.there (Rd.fro (k:=2) rfl rfl))
 repeat (first | (apply wo_po;apply mo_load;exact rfl;exact rs2;exact gY) | refine we_seq ?_ | (refine wR ?_;try simp only [oS]) | refine wo_nil ?_ | refine wM ?_ | refine wN ?_ | refine wD ?_)
 refine wo_hear (X:=⟨g,wg,(seatSs ids p.qs).set k ⟨i.says,i.turn,i.fin,.run (f p.s).1 (f p.s).2⟩,none,16384-(p.tr.length+1),ids.length,false,.play,none,0⟩) (j:=k) (c:=⟨i.says,i.turn,i.fin,.run (f p.s).1 (f p.s).2⟩) (s:=(f p.s).1) (q:=(f p.s).2) rfl rfl rfl (List.getElem?_set_self (by rw [hsz];exact hk)) rfl rfl trivial ?_
 have hc:=lastC_says (g:=g) (q:=(f p.s).2)
 have hov:over [.int .u8 m.1,.int .i64 m.2,.bool false] 0 (g.says (f p.s).2).cells.toList=lastQ g (f p.s).2:=by
  rw [hc];unfold over;simp [lastC_len]
 repeat (first | refine wN ?_ | refine wD ?_)
 apply wo_pm
 exact mo_storeA (n:=3) (c:=3) (k:=0) (a:=3) (vs:=[.int .u8 m.1,.int .i64 m.2,.bool false]) rfl rfl (by rw [← Array.length_toList,hc];exact lastC_len) (by rw [hc];exact lastC_one) rfl (Nat.le_refl 3) (.there (.there (.there (.there .here))))
 exact trivial
 rw [hov]
 have hset:((seatSs ids p.qs).set k ⟨i.says,i.turn,i.fin,.run (f p.s).1 (f p.s).2⟩).set k ⟨i.says,i.turn,i.fin,.said (f p.s).2⟩=seatSs ids (p.qs.set k (f p.s).2):=by
  rw [List.set_set];exact (zip_set (f:=seatS) hi).symm
 repeat (first | refine we_seq ?_ | (refine wR ?_;try simp only [oS]) | refine wo_nil ?_ | refine wA ?_ | refine we_ret ?_)
 (first | refine or1 Try.func48 Try.results48 hQ rfl ?_ | refine on1 Try.func48 Try.results48 hQ rfl ?_)
 refine ⟨.slice ua un uc,rfl,?_,fun h st=>?_⟩
 ·show gx g wg (((seatSs ids p.qs).set k ⟨i.says,i.turn,i.fin,.run (f p.s).1 (f p.s).2⟩).set k ⟨i.says,i.turn,i.fin,.said (f p.s).2⟩) _ _ _=gx g wg _ _ _ _
  rw [hset]
  simp
 ·have st1:Star (seatR i.sb i.says i.turn i.fin::arr i.sb 3 (lastQ g (f p.s).2)::er::g.U (f p.s).1::arr pb 0 [.slice (some ⟨b,o,none⟩) ids.length c,.slice ua un uc,cs]::vec 1 (.slice (some ⟨b,o,none⟩) ids.length c) (ptrs ids)::vec 3 (.slice ua un uc) (trCP p.tr++[.int .i64 (k:Nat),.int .u8 m.1,.int .i64 m.2])::F) h:=Ent.star (.take (.there (.there (.there .here))) (.take (.there (.there (.there .here))) (.take (.there (.there (.there (.there (.there .here))))) (.take .here (.take (.there (.there .here)) (.take (.there (.there .here)) (.take .here (.drop .refl)))))))) st
  rw [← trCP_app] at st1
  have s1:=seat_put hi hq st1
  exact Ent.star (.take (.there .here) (.take (.there .here) (.take (.there .here) (.take (.there .here) (.take .here .refl))))) s1
theorem takes_tr {k:Int} (hl:ids.length=p.qs.length) (hle:p.tr.length≤16384) (hok:p.tr.length<16384→g.ok p.s) :
  Tr Try.prog mT 48 [.pointer (some ⟨pb,0,none⟩),.int .i64 k] (playL g pb ss ts cs ids p F) (playX g wg ids p) fun v L' x'=>∃ ts',v=.bool (takeF p k).2∧L'=playL g pb ss ts' cs ids (takeF p k).1 F∧x'=playX g wg ids (takeF p k).1:=by
 by_cases h0:k<0
 ·rw [show takeF p k=(p,false) by unfold takeF;rw [if_pos h0]]
  exact (take_out hl (.inl h0)).mono fun v L' x' h=>⟨ts,h⟩
 obtain ⟨n,rfl⟩:∃ n:Nat,k=n:=⟨k.toNat,by omega⟩
 cases hq:p.qs[n]? with
 | none =>
  have:=List.getElem?_eq_none_iff.1 hq
  rw [show takeF p (n:Int)=(p,false) by unfold takeF;rw [if_neg h0,Int.toNat_natCast,hq]]
  exact (take_out hl (.inr (by omega))).mono fun v L' x' h=>⟨ts,h⟩
 | some q =>
  have hn:=(List.getElem?_eq_some_iff.1 hq).1
  have hi:ids[n]?=some (ids[n]'(by omega)):=List.getElem?_eq_getElem _
  cases hpl:g.plan q with
  | none =>
   rw [show takeF p (n:Int)=(p,false) by unfold takeF;rw [if_neg h0,Int.toNat_natCast,hq];simp only [hpl]]
   exact (take_no hi hq (.inl hpl)).mono fun v L' x' h=>⟨ts,h⟩
  | some mf =>
   obtain ⟨m,f⟩:=mf
   by_cases htr:p.tr.length=16384
   ·rw [show takeF p (n:Int)=(p,false) by unfold takeF;rw [if_neg h0,Int.toNat_natCast,hq];simp only [hpl,if_pos htr]]
    exact (take_no hi hq (.inr htr)).mono fun v L' x' h=>⟨ts,h⟩
   ·rw [show takeF p (n:Int)=(⟨(f p.s).1,p.qs.set n (f p.s).2,p.tr++[(n,m)]⟩,true) by unfold takeF;rw [if_neg h0,Int.toNat_natCast,hq];simp only [hpl,if_neg htr]]
    exact (take_yes hl hi hq hpl (by omega) (hok (by omega))).mono fun v L' x' h=>h
end
end Go.Proofs.Ytabbkjciifnehaa
namespace Go.PB
section
variable {P:Program} {B:Hand} {kd:CallKind} {n:Nat} {ops:Array Oper} {ord R:List Nat} {Pd:List Pn} {K:Post B} {e:Env} {z:Z} {L:List HProp} {x:B.X}
theorem ap1_swap {i f:Nat} {ord' R' pre idx:List Nat} {t:Array Value} {h:Hp} (hf:R.contains f=true) (hR:R.erase f=R') (hord:ord'=(ord.takeWhile fun q=>!(q == i))++f::i::R') (hok:okOrd n ops ord'=true)
  (b:Ap1 P B kd n ops ord' f (i::R') Pd K e z L x) (hpre:ord=pre++i::R) (hin:∀ p∈Pd,p.i∈pre) (ok:OkO n ops ord) (hpd:∀ p∈Pd,PdOk P n ops L p) (I:InvA n ops (i::R) Pd e (f::idx) t) (s:Star L h):Wr P B kd ops (f::idx) K t z h x:=by
 subst hR
 have hfR:f∈R:=by simpa using hf
 have hnd:(pre++i::R).Nodup:=hpre▸ok.nd
 have htw:ord.takeWhile (fun q=>!(q == i))=pre:=by rw [hpre];exact takeWhile_pre hnd
 have hnd2:=List.nodup_cons.1 (List.nodup_append.1 hnd).2.1
 have hmem:∀ y,(y∈f::i::R.erase f)↔y∈i::R:=by
  intro y
  simp only [List.mem_cons,hnd2.2.mem_erase_iff]
  constructor
  ·rintro (rfl | rfl | ⟨_,h⟩)
   ·exact .inr hfR
   ·exact .inl rfl
   ·exact .inr h
  ·rintro (rfl | h)
   ·exact .inr (.inl rfl)
   ·by_cases e:y=f
    ·exact .inl e
    ·exact .inr (.inr ⟨e,h⟩)
 refine b ⟨pre,by rw [hord,htw],hin⟩ (okOrd_ok hok) hpd idx t h ⟨I.sz,I.nd,I.lt,fun q hq=>?_,fun q hq=>I.all q ((hmem q).1 hq),fun p hp hh=>I.dj p hp ((hmem _).1 hh),I.pu,I.resp,I.dn,I.envok,I.pok⟩ s
 rcases I.sub q hq with h1 | h1
 ·exact .inl ((hmem q).2 h1)
 ·exact .inr h1
theorem ap_fork3 [Lets B] {i f g:Nat} {ordf ordg Rf Rg:List Nat} (hdom:(R.all fun j=>j == f||j == g||(anc ops ops.size j).contains i)=true) (hf:R.contains f=true) (hRf:R.erase f=Rf) (hordf:ordf=(ord.takeWhile fun q=>!(q == i))++f::i::Rf) (hokf:okOrd n ops ordf=true)
  (hg:R.contains g=true) (hRg:R.erase g=Rg) (hordg:ordg=(ord.takeWhile fun q=>!(q == i))++g::i::Rg) (hokg:okOrd n ops ordg=true)
  (a:Ap1 P B kd n ops ord i R Pd K e z L x) (b:Ap1 P B kd n ops ordf f (i::Rf) Pd K e z L x) (c:Ap1 P B kd n ops ordg g (i::Rg) Pd K e z L x):Ap P B kd n ops ord (i::R) Pd K e z L x:=by
 rintro ⟨pre,hpre,hin⟩ ok hpd
 refine ap_run ok hpd (fun t h I s=>?_) (fun j idx t h hj I s=>?_)
 ·have:=I.all i (by simp);simp at this
 ·by_cases hji:j=i
  ·subst hji
   exact a ⟨pre,hpre,hin⟩ ok hpd idx t h I s
  ·have hjf:j=f∨j=g:=by
    rcases List.mem_cons.1 hj with h1 | h1
    ·exact absurd h1 hji
    ·have:=(List.all_eq_true.1 hdom) j h1
     simp only [Bool.or_eq_true,beq_iff_eq,List.contains_eq_mem,decide_eq_true_eq] at this
     rcases this with h2 | h2
     ·exact h2
     ·exact absurd (I.all i (by simp)) (I.first ok h2)
   rcases hjf with rfl | rfl
   ·exact ap1_swap hf hRf hordf hokf b hpre hin ok hpd I s
   ·exact ap1_swap hg hRg hordg hokg c hpre hin ok hpd I s
theorem ap_fork2 [Lets B] {i f:Nat} {ordf Rf:List Nat} (hdom:(R.all fun j=>j == f||(anc ops ops.size j).contains i)=true) (hf:R.contains f=true) (hRf:R.erase f=Rf) (hordf:ordf=(ord.takeWhile fun q=>!(q == i))++f::i::Rf) (hokf:okOrd n ops ordf=true)
  (a:Ap1 P B kd n ops ord i R Pd K e z L x) (b:Ap1 P B kd n ops ordf f (i::Rf) Pd K e z L x):Ap P B kd n ops ord (i::R) Pd K e z L x:=by
 subst hRf;exact ap_fork hdom hf hordf hokf a b
end
end Go.PB
namespace Go.Proofs.Ytabbkjciifnehaa
open Go Go.PB
attribute [local irreducible] Mo Bin Eql Tr Wo Ap Wle
section
variable {B:Hand} [Lets B] {L:List HProp} {x:B.X}
def isFn (v:Value):Prop:=∃ f u w,v=.func f u w
theorem wrong1_nil:Tr Try.prog B 62 [.nilFunc] L x fun v L' x'=>v=.bool true∧L'=L∧x'=x:=by
 refine tr_of_body Try.func62 rfl Try.ntmps62 (by simp) fun um Q _ hQ=>?_
 simp only [argE,Nat.zero_add,Nat.reduceAdd]
 repeat (first | (apply wo_po;apply mo_bin;exact rfl;exact rfl;apply bin_eq;apply eql_nilfunc_nil;exact trivial) | refine we_seq ?_ | (refine wR ?_;try simp only [oS]) | refine wo_nil ?_ | refine wM ?_ | refine wA ?_ | refine we_ret ?_)
 (first | refine or1 Try.func62 Try.results62 hQ rfl ?_ | refine on1 Try.func62 Try.results62 hQ rfl ?_)
 exact ⟨rfl,rfl,rfl⟩
theorem wrong1_fn {v:Value} (hv:isFn v):Tr Try.prog B 62 [v] L x fun v L' x'=>v=.bool false∧L'=L∧x'=x:=by
 obtain ⟨f,u,w,rfl⟩:=hv
 refine tr_of_body Try.func62 rfl Try.ntmps62 (by simp) fun um Q _ hQ=>?_
 simp only [argE,Nat.zero_add,Nat.reduceAdd]
 repeat (first | (apply wo_po;apply mo_bin;exact rfl;exact rfl;apply bin_eq;apply eql_func_nil;exact trivial) | refine we_seq ?_ | (refine wR ?_;try simp only [oS]) | refine wo_nil ?_ | refine wM ?_ | refine wA ?_ | refine we_ret ?_)
 (first | refine or1 Try.func62 Try.results62 hQ rfl ?_ | refine on1 Try.func62 Try.results62 hQ rfl ?_)
 exact ⟨rfl,rfl,rfl⟩
def RdsO (L:List HProp) (a:Option Addr) (n:Nat) (vs:List Value):Prop:=n=vs.length∧(n=0∨∃ b o,a=some ⟨b,o,none⟩∧Rds L b o vs)
theorem RdsO.there {L:List HProp} {c:HProp} {a:Option Addr} {n:Nat} {vs:List Value} (h:RdsO L a n vs):RdsO (c::L) a n vs :=
 ⟨h.1,h.2.imp id fun ⟨b,o,e,r⟩=>⟨b,o,e,fun i v hi=>.there (r i v hi)⟩⟩
theorem RdsO.rds {L:List HProp} {a:Option Addr} {n:Nat} {vs:List Value} (h:RdsO L a n vs) (hn:0<n):∃ b o,a=some ⟨b,o,none⟩∧Rds L b o vs:=by
 rcases h.2 with h0 | h
 ·omega
 ·exact h
def idxInv (tv fv:Value) (vs:List Value) (L:List HProp) (x:B.X):PB.Inv Nat B.X where
 e:=fun i=>[(0,tv),(1,fv),(7,.int .i64 (vs.length:Nat)),(8,.int .i64 (i:Nat))]
 L:=fun _=>L
 x:=fun _=>x
 ok:=fun i=>i≤vs.length∧∀ k v,k<i→vs[k]?=some v→isFn v
theorem index_tr {a:Option Addr} {n c:Nat} {vs:List Value} (hvs:∀ v∈vs,v=.nilFunc∨isFn v) (hr:RdsO L a n vs) (hb:n<1000000) :
  Tr Try.prog B 85 [.slice a n c,.func (.func 62) #[] #[]] L x fun v L' x'=>(∃ j:Int,v=.int .i64 j∧((j<0∧∀ v∈vs,isFn v)∨(0≤j∧.nilFunc∈vs)))∧L'=L∧x'=x:=by
 obtain ⟨rfl,hr⟩:=hr
 refine tr_of_body Try.func85 rfl Try.ntmps85 (by simp) fun um Q _ hQ=>?_
 simp only [argE,Nat.zero_add,Nat.reduceAdd]
 repeat (first | refine we_seq ?_ | (refine wR ?_;try simp only [oS]) | refine wo_nil ?_ | refine wM ?_ | refine wA ?_ | refine wE ?_ | refine we_block ?_)
 refine we_loopN (idxInv (.slice a vs.length c) (.func (.func 62) #[] #[]) vs L x) (fun i=>vs.length-i) 0 ⟨by omega,fun k v h=>by omega⟩ ⟨rfl,rfl,rfl,rfl,trivial⟩ .refl rfl ?_
 rintro i ⟨hi,hbe⟩
 simp only [idxInv]
 by_cases hlt:i<vs.length
 ·obtain ⟨b,o,rfl,hrd⟩:∃ b o,a=some ⟨b,o,none⟩∧Rds L b o vs:=by
   rcases hr with h | h
   ·omega
   ·exact h
  have hri:=hrd i vs[i] (List.getElem?_eq_getElem hlt)
  repeat (first | (apply wo_po;apply mo_index1;exact rfl;exact rfl;omega;exact gY) | (apply wo_po;apply mo_load;exact rfl;exact hri;exact trivial) | refine wlssT ?_ | refine we_seq ?_ | (refine wR ?_;try simp only [oS]) | refine wo_nil ?_ | refine wM ?_ | refine wA ?_ | refine wT ?_ | refine we_skip ?_ | refine we_block ?_)
  rcases hvs vs[i] (List.getElem_mem hlt) with hv | hv
  ·rw [hv]
   refine wo_callv (args:=[_]) (first:=[]) (cap:=[]) rfl rfl (.cons rfl .nil) trivial (R:=fun v L' x'=>v=.bool true∧L'=L∧x'=x) wrong1_nil ?_
   rintro v L' x' ⟨rfl,rfl,rfl⟩
   repeat (first | refine we_seq ?_ | (refine wR ?_;try simp only [oS]) | refine wo_nil ?_ | refine wM ?_ | refine wA ?_ | refine wT ?_ | refine we_ret ?_)
   (first | refine or1 Try.func85 Try.results85 hQ rfl ?_ | refine on1 Try.func85 Try.results85 hQ rfl ?_)
   exact ⟨⟨_,rfl,.inr ⟨by omega,by rw [← hv];exact List.getElem_mem hlt⟩⟩,rfl,rfl⟩
  ·refine wo_callv (args:=[_]) (first:=[]) (cap:=[]) rfl rfl (.cons rfl .nil) trivial (R:=fun v L' x'=>v=.bool false∧L'=L∧x'=x) (wrong1_fn hv) ?_
   rintro v L' x' ⟨rfl,rfl,rfl⟩
   repeat (first | (refine wR ?_;try simp only [oS]) | refine wo_nil ?_ | refine wM ?_ | refine wadd ?_ | refine wF ?_ | refine we_skip ?_)
   refine at_round (I:=idxInv (.slice (some ⟨b,o,none⟩) vs.length c) (.func (.func 62) #[] #[]) vs _ x') (R:=fun j=>vs.length-j<vs.length-i) (i+1) (by omega) ⟨by omega,fun k v hk hv'=>?_⟩ ⟨rfl,rfl,rfl,rfl,trivial⟩ .refl rfl
   by_cases e:k=i
   ·subst e;rw [List.getElem?_eq_getElem hlt] at hv';cases hv';exact hv
   ·exact hbe k v (by omega) hv'
 ·repeat (first | refine wlssF ?_ | refine we_seq ?_ | (refine wR ?_;try simp only [oS]) | refine wo_nil ?_ | refine wA ?_ | refine wF ?_ | refine we_ret ?_ | refine we_exit ?_)
  (first | refine or1 Try.func85 Try.results85 hQ rfl ?_ | refine on1 Try.func85 Try.results85 hQ rfl ?_)
  refine ⟨⟨_,rfl,.inl ⟨by omega,fun v hv=>?_⟩⟩,rfl,rfl⟩
  obtain ⟨k,hk⟩:=List.mem_iff_getElem?.1 hv
  exact hbe k v (by have:=(List.getElem?_eq_some_iff.1 hk).1;omega) hk
theorem contains_tr {a:Option Addr} {n c:Nat} {vs:List Value} (hvs:∀ v∈vs,v=.nilFunc∨isFn v) (hr:RdsO L a n vs) (hb:n<1000000) :
  Tr Try.prog B 61 [.slice a n c,.func (.func 62) #[] #[]] L x fun v L' x'=>(∃ q,v=.bool q∧(if q=true then .nilFunc∈vs else ∀ v∈vs,isFn v))∧L'=L∧x'=x:=by
 refine tr_of_body Try.func61 rfl Try.ntmps61 (by simp) fun um Q _ hQ=>?_
 simp only [argE,Nat.zero_add,Nat.reduceAdd]
 repeat (first | refine we_seq ?_ | (refine wR ?_;try simp only [oS]) | refine wo_nil ?_ | refine wM ?_ | refine wA ?_)
 refine wo_call (.cons rfl (.cons rfl .nil)) trivial (index_tr hvs hr hb) ?_
 rintro v L' x' ⟨⟨j,rfl,hj⟩,rfl,rfl⟩
 rcases hj with ⟨h1,h2⟩ | ⟨h1,h2⟩
 ·repeat (first | refine wgeqF ?_ | refine wo_nil ?_ | refine wA ?_ | refine we_ret ?_)
  (first | refine or1 Try.func61 Try.results61 hQ rfl ?_ | refine on1 Try.func61 Try.results61 hQ rfl ?_)
  exact ⟨⟨false,rfl,h2⟩,rfl,rfl⟩
 ·repeat (first | refine wgeqT ?_ | refine wo_nil ?_ | refine wA ?_ | refine we_ret ?_)
  (first | refine or1 Try.func61 Try.results61 hQ rfl ?_ | refine on1 Try.func61 Try.results61 hQ rfl ?_)
  exact ⟨⟨true,rfl,h2⟩,rfl,rfl⟩
theorem wrong_tr {a:Option Addr} {n c:Nat} {vs:List Value} (hvs:∀ v∈vs,v=.nilFunc∨isFn v) (hr:RdsO L a n vs) (hb:n<1000000) :
  Tr Try.prog B 46 [.slice a n c] L x fun v L' x'=>(∃ k:Int,v=.int .i64 k∧(((k=1∧.nilFunc∈vs)∨((∀ v∈vs,isFn v)∧k=if vs.length=0 then 2 else if 16<vs.length then 4 else 0))))∧L'=L∧x'=x:=by
 have hn:=hr.1
 refine tr_of_body Try.func46 rfl Try.ntmps46 (by simp) fun um Q _ hQ=>?_
 simp only [argE,Nat.zero_add,Nat.reduceAdd]
 repeat (first | refine we_seq ?_ | (refine wR ?_;try simp only [oS]) | refine wo_nil ?_ | refine wM ?_ | refine wA ?_ | refine we_block ?_)
 refine wo_call (.cons rfl (.cons rfl .nil)) trivial (contains_tr hvs hr hb) ?_
 rintro v L' x' ⟨⟨q,rfl,hq⟩,rfl,rfl⟩
 cases q with
 | true =>
  repeat (first | refine we_seq ?_ | (refine wR ?_;try simp only [oS]) | refine wo_nil ?_ | refine wA ?_ | refine wT ?_ | refine we_ret ?_)
  (first | refine or1 Try.func46 Try.results46 hQ rfl ?_ | refine on1 Try.func46 Try.results46 hQ rfl ?_)
  exact ⟨⟨_,rfl,.inl ⟨rfl,hq⟩⟩,rfl,rfl⟩
 | false =>
  by_cases h0:n=0
  ·repeat (first | refine weqlT ?_ | refine we_seq ?_ | (refine wR ?_;try simp only [oS]) | refine wo_nil ?_ | refine wM ?_ | refine wA ?_ | refine wE ?_ | refine wT ?_ | refine wF ?_ | refine we_ret ?_)
   (first | refine or1 Try.func46 Try.results46 hQ rfl ?_ | refine on1 Try.func46 Try.results46 hQ rfl ?_)
   exact ⟨⟨_,rfl,.inr ⟨hq,by rw [if_pos (by omega)]⟩⟩,rfl,rfl⟩
  by_cases h1:16<n
  ·repeat (first | refine wgtrT ?_ | refine weqlF ?_ | refine we_seq ?_ | (refine wR ?_;try simp only [oS]) | refine wo_nil ?_ | refine wM ?_ | refine wA ?_ | refine wE ?_ | refine wT ?_ | refine wF ?_ | refine we_ret ?_)
   (first | refine or1 Try.func46 Try.results46 hQ rfl ?_ | refine on1 Try.func46 Try.results46 hQ rfl ?_)
   exact ⟨⟨_,rfl,.inr ⟨hq,by rw [if_neg (by omega),if_pos (by omega)]⟩⟩,rfl,rfl⟩
  ·repeat (first | refine wgtrF ?_ | refine weqlF ?_ | refine we_seq ?_ | (refine wR ?_;try simp only [oS]) | refine wo_nil ?_ | refine wM ?_ | refine wA ?_ | refine wE ?_ | refine wF ?_ | refine we_ret ?_ | refine we_skip ?_)
   (first | refine or1 Try.func46 Try.results46 hQ rfl ?_ | refine on1 Try.func46 Try.results46 hQ rfl ?_)
   exact ⟨⟨_,rfl,.inr ⟨hq,by rw [if_neg (by omega),if_neg (by omega)]⟩⟩,rfl,rfl⟩
end
end Go.Proofs.Ytabbkjciifnehaa
namespace Go.Proofs.Ytabbkjciifnehaa
open Go Go.PB
attribute [local irreducible] Mo Bin Eql Tr Wo Ap Wle
attribute [local instance] Pass.of_no
section
structure Thr (g:Game) where
 fv:Value
 ini:g.σ→g.σ × g.θ
 M:HProp
section
variable {g:Game}
def startF:List (Thr g)→g.σ→g.σ × List g.θ
 | [],s=>(s,[])
 | t::ts,s=>((startF ts (t.ini s).1).1,(t.ini s).2::(startF ts (t.ini s).1).2)
theorem startF_snoc {t:Thr g}:∀ (l:List (Thr g)) (s:g.σ),startF (l++[t]) s=((t.ini (startF l s).1).1,(startF l s).2++[(t.ini (startF l s).1).2])
 | [],s=>rfl
 | a::l,s=>by simp only [List.cons_append,startF,startF_snoc l]
theorem startF_len:∀ (l:List (Thr g)) (s:g.σ),(startF l s).2.length=l.length
 | [],s=>rfl
 | a::l,s=>by simp [startF,startF_len l]
def ordF (p:PS g) (order:List Int):PS g:=order.foldl (fun p k=>(takeF p k).1) p
def roundF (p:PS g):Nat→PS g × Bool
 | 0=>(p,false)
 | k+1=>((takeF (roundF p k).1 k).1,(takeF (roundF p k).1 k).2||(roundF p k).2)
def restF:Nat→PS g→PS g
 | 0,p=>p
 | n+1,p=>if (roundF p p.qs.length).2=true then restF n (roundF p p.qs.length).1 else (roundF p p.qs.length).1
def playF (ts:List (Thr g)) (s:g.σ) (order:List Int):PS g:=restF 16385 (ordF ⟨(startF ts s).1,(startF ts s).2,[]⟩ order)
def cutC (l:List Nat):List Value:=l.map fun k=>.int .i64 (k:Nat)
theorem roundF_len (p:PS g):∀ n,(roundF p n).1.qs.length=p.qs.length
 | 0=>rfl
 | n+1=>by show (takeF _ _).1.qs.length=_;rw [takeF_len,roundF_len p n]
theorem roundF_le {p:PS g} (h:p.tr.length≤16384):∀ n,(roundF p n).1.tr.length≤16384
 | 0=>h
 | n+1=>takeF_le (roundF_le h n) _
theorem takeF_cases (p:PS g) (k:Int):takeF p k=(p,false)∨∃ (n:Nat) (q:g.θ) (m:Int × Int) (f:g.σ→g.σ × g.θ),k=n∧p.qs[n]?=some q∧g.plan q=some (m,f)∧p.tr.length≠16384∧takeF p k=(⟨(f p.s).1,p.qs.set n (f p.s).2,p.tr++[(n,m)]⟩,true):=by
 by_cases h0:k<0
 ·left;unfold takeF;rw [if_pos h0]
 obtain ⟨n,rfl⟩:∃ n:Nat,k=n:=⟨k.toNat,by omega⟩
 cases hq:p.qs[n]? with
 | none=>left;unfold takeF;rw [if_neg h0,Int.toNat_natCast,hq]
 | some q =>
  cases hpl:g.plan q with
  | none=>left;unfold takeF;rw [if_neg h0,Int.toNat_natCast,hq];simp only [hpl]
  | some mf =>
   obtain ⟨m,f⟩:=mf
   by_cases htr:p.tr.length=16384
   ·left;unfold takeF;rw [if_neg h0,Int.toNat_natCast,hq];simp only [hpl,if_pos htr]
   ·right;refine ⟨n,q,m,f,rfl,hq,hpl,htr,?_⟩
    unfold takeF;rw [if_neg h0,Int.toNat_natCast,hq];simp only [hpl,if_neg htr]
theorem takeF_grow (p:PS g) (k:Int):p.tr.length+(if (takeF p k).2=true then 1 else 0)≤(takeF p k).1.tr.length:=by
 rcases takeF_cases p k with h | ⟨n,q,m,f,_,_,_,_,h⟩ <;> rw [h] <;> simp
theorem roundF_grow (p:PS g):∀ n,p.tr.length+(if (roundF p n).2=true then 1 else 0)≤(roundF p n).1.tr.length
 | 0=>by simp [roundF]
 | n+1=>by
  have h1:=roundF_grow p n
  have h2:=takeF_grow (roundF p n).1 n
  show p.tr.length+(if ((takeF (roundF p n).1 n).2||(roundF p n).2)=true then 1 else 0)≤(takeF (roundF p n).1 n).1.tr.length
  cases h3:(takeF (roundF p n).1 n).2 <;> cases h4:(roundF p n).2 <;> simp [h3,h4] at h1 h2 ⊢ <;> omega
theorem ordF_len (order:List Int):∀ p:PS g,(ordF p order).qs.length=p.qs.length:=by
 induction order with
 | nil=>intro p;rfl
 | cons k l ih=>intro p;show (ordF (takeF p k).1 l).qs.length=_;rw [ih,takeF_len]
theorem ordF_le (order:List Int):∀ p:PS g,p.tr.length≤16384→(ordF p order).tr.length≤16384:=by
 induction order with
 | nil=>intro p h;exact h
 | cons k l ih=>intro p h;exact ih _ (takeF_le h k)
theorem ordF_snoc (p:PS g) (l:List Int) (k:Int):ordF p (l++[k])=(takeF (ordF p l) k).1:=by simp [ordF]
def cutN (g:Game) (qs:List g.θ) (j:Nat):List Nat:=(List.range j).filter fun k=>((qs[k]?).bind g.plan).isSome
theorem cutN_succ {qs:List g.θ} {j:Nat}:cutN g qs (j+1)=cutN g qs j++(if ((qs[j]?).bind g.plan).isSome=true then [j] else []):=by
 unfold cutN
 rw [List.range_succ,List.filter_append]
 congr 1
 simp only [List.filter_cons,List.filter_nil]
def shutS (ids:List SId) (qs:List g.θ) (j:Nat):List (Seat g.σ g.θ):=(List.zip ids qs).mapIdx fun k iq=>if k<j then ⟨iq.1.says,iq.1.turn,iq.1.fin,.shut iq.2⟩ else seatS iq.1 iq.2
theorem shutS_zero {ids:List SId} {qs:List g.θ}:shutS ids qs 0=seatSs ids qs:=by
 apply List.ext_getElem?
 intro k
 simp only [shutS,List.getElem?_mapIdx,seatSs,List.getElem?_zipWith,List.getElem?_zip_eq_some,List.zip,Nat.not_lt_zero,if_false]
 cases ids[k]? <;> cases qs[k]? <;> rfl
theorem shutS_len {ids:List SId} {qs:List g.θ} {j:Nat} (h:ids.length=qs.length):(shutS ids qs j).length=ids.length:=by simp [shutS];omega
theorem shutS_get {ids:List SId} {qs:List g.θ} {j k:Nat} {i:SId} {q:g.θ} (hi:ids[k]?=some i) (hq:qs[k]?=some q):(shutS ids qs j)[k]?=some (if k<j then ⟨i.says,i.turn,i.fin,.shut q⟩ else seatS i q):=by
 simp [shutS,List.getElem?_mapIdx,List.zip,List.getElem?_zipWith,hi,hq]
theorem shutS_succ {ids:List SId} {qs:List g.θ} {j:Nat} {i:SId} {q:g.θ} (hi:ids[j]?=some i) (hq:qs[j]?=some q):(shutS ids qs j).set j ⟨i.says,i.turn,i.fin,.shut q⟩=shutS ids qs (j+1):=by
 apply List.ext_getElem?
 intro k
 have hj:j<(shutS ids qs j).length:=(List.getElem?_eq_some_iff.1 (shutS_get (j:=j) hi hq)).1
 rw [List.getElem?_set]
 by_cases e:j=k
 ·subst e
  rw [if_pos rfl,if_pos hj,shutS_get hi hq,if_pos (by omega)]
 ·rw [if_neg e]
  simp only [shutS,List.getElem?_mapIdx]
  cases (ids.zip qs)[k]? with
  | none=>rfl
  | some iq =>
   simp only [Option.map_some,Option.some.injEq]
   by_cases h:k<j
   ·rw [if_pos h,if_pos (by omega)]
   ·rw [if_neg h,if_neg (by omega)]
theorem shutS_all {ids:List SId} {qs:List g.θ} (h:ids.length=qs.length):(shutS ids qs ids.length).map Seat.fins=qs.map g.Fin:=by
 apply List.ext_getElem?
 intro k
 by_cases hk:k<ids.length
 ·have hi:=List.getElem?_eq_getElem hk
  have hq:=List.getElem?_eq_getElem (show k<qs.length by omega)
  rw [List.getElem?_map,shutS_get hi hq,if_pos hk,List.getElem?_map,hq]
  rfl
 ·rw [List.getElem?_eq_none (by simp [shutS_len h];omega),List.getElem?_eq_none (by simp;omega)]
theorem shutS_closed {ids:List SId} {qs:List g.θ} (h:ids.length=qs.length):∀ s∈shutS ids qs ids.length,s.closed:=by
 intro s hs
 obtain ⟨k,hk⟩:=List.mem_iff_getElem?.1 hs
 have hlt:=(List.getElem?_eq_some_iff.1 hk).1
 rw [shutS_len h] at hlt
 rw [shutS_get (List.getElem?_eq_getElem hlt) (List.getElem?_eq_getElem (show k<qs.length by omega)),if_pos hlt] at hk
 cases hk
 trivial
end
section
variable {g:Game} {ts:List (Thr g)} {s0:g.σ} {F:List HProp} {wg pb rb:Nat} {ov tv:Value}
theorem star_head {c:HProp} {M L:List HProp} {h:Hp} (s:Star (all (c::M)::L) h):Star (c::all M::L) h :=
 star_map (star_open s) (fun _ a=>a) (fun _ st=>star_shut (M:=M) st)
def startInvP (ts:List (Thr g)) (s0:g.σ) (wg pb rb:Nat) (ov tv:Value) (F:List HProp):PB.Inv (Nat × g.σ × List g.θ × List SId × Value) MX where
 e:=fun i=>[(0,ov),(1,tv),(4,.pointer (some ⟨rb,0,none⟩)),(7,.pointer (some ⟨wg,0,none⟩)),(8,.pointer (some ⟨pb,0,none⟩)),(28,tv),(29,.int .i64 (ts.length:Nat)),(30,.int .i64 (i.1:Nat))]
 L:=fun i=>g.U i.2.1::arr pb 0 [i.2.2.2.2,.slice none 0 0,.slice none 0 0]::vec 1 i.2.2.2.2 (ptrs i.2.2.2.1)::all (seatCs g i.2.2.2.1 i.2.2.1)::all ((ts.drop i.1).map Thr.M)::arr rb 0 [.slice none 0 0,.slice none 0 0]::F
 x:=fun i=>gx g wg (seatSs i.2.2.2.1 i.2.2.1) (some i.2.1) 16384 (seatSs i.2.2.2.1 i.2.2.1).length
 ok:=fun i=>i.1≤ts.length∧i.2.2.2.1.length=i.1∧startF (ts.take i.1) s0=(i.2.1,i.2.2.1)
def seatMid (wg pb rb j n:Nat) (ov tv fv:Value) (x:MX) (L:List HProp):PB.Inv (Nat × Nat × Nat × Nat) MX where
 e:=fun i=>[(0,ov),(1,tv),(4,.pointer (some ⟨rb,0,none⟩)),(7,.pointer (some ⟨wg,0,none⟩)),(8,.pointer (some ⟨pb,0,none⟩)),(28,tv),(29,.int .i64 (n:Nat)),(30,.int .i64 (j:Nat)),(10,fv),(11,.pointer (some ⟨i.1,0,none⟩))]
 L:=fun i=>arr i.1 0 [.chan (some i.2.2.1),.chan (some i.2.2.2),.chan (some i.2.1),.int .u8 0,.int .i64 0,.bool false]::ob i.2.1 newChan::ob i.2.2.1 newChan::ob i.2.2.2 newChan::L
 x:=fun _=>x
 ok:=fun _=>True
def ordInv (p0:PS g) (order:List Int) (ids:List SId) (wg pb rb:Nat) (ov:Value) (ss:Value) (F:List HProp):PB.Inv (Nat × Value) MX where
 e:=fun i=>[(4,.pointer (some ⟨rb,0,none⟩)),(7,.pointer (some ⟨wg,0,none⟩)),(8,.pointer (some ⟨pb,0,none⟩)),(49,ov),(50,.int .i64 (order.length:Nat)),(51,.int .i64 (i.1:Nat))]
 L:=fun i=>playL g pb ss i.2 (.slice none 0 0) ids (ordF p0 (order.take i.1)) F
 x:=fun i=>playX g wg ids (ordF p0 (order.take i.1))
 ok:=fun i=>i.1≤order.length
def restInv (I:PS g→Prop) (p0:PS g) (ids:List SId) (wg pb rb:Nat) (ss:Value) (F:List HProp):PB.Inv (Nat × PS g × Value × Bool) MX where
 e:=fun i=>[(4,.pointer (some ⟨rb,0,none⟩)),(7,.pointer (some ⟨wg,0,none⟩)),(8,.pointer (some ⟨pb,0,none⟩)),(14,.bool i.2.2.2)]
 L:=fun i=>playL g pb ss i.2.2.1 (.slice none 0 0) ids i.2.1 F
 x:=fun i=>playX g wg ids i.2.1
 ok:=fun i=>I i.2.1∧i.2.1.qs.length=p0.qs.length∧i.2.1.tr.length≤16384∧(if i.2.2.2=true then restF i.1 i.2.1=restF 16385 p0∧16384<i.2.1.tr.length+i.1 else i.2.1=restF 16385 p0)
def rndInvP (p:PS g) (ids:List SId) (wg pb rb:Nat) (ss:Value) (F:List HProp):PB.Inv (Nat × Value) MX where
 e:=fun i=>[(4,.pointer (some ⟨rb,0,none⟩)),(7,.pointer (some ⟨wg,0,none⟩)),(8,.pointer (some ⟨pb,0,none⟩)),(14,.bool (roundF p i.1).2),(61,.int .i64 (ids.length:Nat)),(62,.int .i64 (i.1:Nat))]
 L:=fun i=>playL g pb ss i.2 (.slice none 0 0) ids (roundF p i.1).1 F
 x:=fun i=>playX g wg ids (roundF p i.1).1
 ok:=fun i=>i.1≤ids.length
def cutInv (p:PS g) (ids:List SId) (wg pb rb:Nat) (ss tsv:Value) (F:List HProp):PB.Inv (Nat × Value) MX where
 e:=fun i=>[(4,.pointer (some ⟨rb,0,none⟩)),(7,.pointer (some ⟨wg,0,none⟩)),(8,.pointer (some ⟨pb,0,none⟩)),(72,ss),(73,.int .i64 (ids.length:Nat)),(74,.int .i64 (i.1:Nat))]
 L:=fun i=>vec 1 i.2 (cutC (cutN g p.qs i.1))::arr pb 0 [ss,tsv,i.2]::vec 1 ss (ptrs ids)::vec 3 tsv (trCP p.tr)::all (seatCs g ids p.qs)::g.U p.s::F
 x:=fun i=>gx g wg (shutS ids p.qs i.1) (some p.s) (16384-p.tr.length) ids.length
 ok:=fun i=>i.1≤ids.length
set_option maxHeartbeats 4000000 in
theorem playsR_tr {oa ta:Option Addr} {on oc tn tc:Nat} {order:List Int} (I:PS g→Prop) (hS:∀ j,j<ts.length→g.ok (startF (ts.take j) s0).1) (hI0:I ⟨(startF ts s0).1,(startF ts s0).2,[]⟩) (hIs:∀ p k,I p→I (takeF p k).1) (hIo:∀ p,I p→p.tr.length<16384→g.ok p.s) (hts:∀ t∈ts,ThrR g t.ini t.fv t.M) (h1:0<ts.length) (h16:ts.length≤16) (hor:order.length≤16384)
  (hrt:RdsO F ta tn (ts.map Thr.fv)) (hro:RdsO F oa on (order.map fun k=>.int .i64 k)) :
  Tr Try.prog mT 17 [.slice oa on oc,.slice ta tn tc] (g.U s0::all (ts.map Thr.M)::F) .idle fun v L' x' =>
   ∃ tv cv,v=.tuple #[.agg #[tv,cv],.int .i64 0]∧x'=.idle∧L'=vec 3 tv (trCP (playF ts s0 order).tr)::vec 1 cv (cutC (cutN g (playF ts s0 order).qs ts.length))::g.U (playF ts s0 order).s::all ((playF ts s0 order).qs.map g.Fin)::F:=by
 refine Tr.post (R:=fun v L' x'=>∃ tv cv,v=.tuple #[.agg #[tv,cv],.int .i64 0]∧x'=MX.idle∧∀ h,Star L' h→Star (vec 3 tv (trCP (playF ts s0 order).tr)::vec 1 cv (cutC (cutN g (playF ts s0 order).qs ts.length))::g.U (playF ts s0 order).s::all ((playF ts s0 order).qs.map g.Fin)::F) h) ?_
  (by rintro v L' x' ⟨tv,cv,rfl,rfl,h2⟩;exact ⟨_,⟨tv,cv,rfl,rfl,rfl⟩,h2⟩)
 have hfn:∀ v∈ts.map Thr.fv,isFn v:=by
  intro v hv
  obtain ⟨t,ht,rfl⟩:=List.mem_map.1 hv
  obtain ⟨f,first,cap,hc⟩:=(hts t ht).fn
  revert hc
  cases t.fv with
  | func a b c=>exact fun _=>⟨a,b,c,rfl⟩
  | _=>intro hc;cases hc
 have hIord:∀ (l:List Int) (p:PS g),I p→I (ordF p l):=by
  intro l
  induction l with
  | nil=>exact fun p h=>h
  | cons k l ih=>exact fun p h=>ih _ (hIs p k h)
 have hIrnd:∀ (p:PS g) k,I p→I (roundF p k).1:=by
  intro p k h
  induction k with
  | zero=>exact h
  | succ k ih=>exact hIs _ _ ih
 have htn:tn=ts.length:=by have:=hrt.1;simpa using this
 have hon:on=order.length:=by have:=hro.1;simpa using this
 subst htn
 subst hon
 refine tr_of_body Try.func17 rfl Try.ntmps17 (by simp) fun um Q _ hQ=>?_
 simp only [argE,Nat.zero_add,Nat.reduceAdd]
 repeat (first | (apply wo_mo;apply mo_alloc;exact trivial) | refine we_seq ?_ | (refine wR ?_;try simp only [oS]))
 rintro v' L' ⟨rb,rfl,rfl⟩
 repeat (first | refine we_seq ?_ | (refine wR ?_;try simp only [oS]) | refine wo_nil ?_ | refine wM ?_ | refine wA ?_)
 refine wo_call (.cons rfl .nil) trivial (wrong_tr (fun v hv=>.inr (hfn v hv)) hrt.there.there.there (by omega)) ?_
 rintro v' L' x' ⟨⟨k,rfl,hk⟩,rfl,rfl⟩
 obtain rfl:k=0:=by
  rcases hk with ⟨_,h⟩ | ⟨_,h⟩
  ·obtain ⟨_,_,_,h⟩:=hfn _ h;cases h
  ·rw [h,List.length_map,if_neg (by omega),if_neg (by omega)]
 repeat (first | (apply wo_mo;apply mo_allocS;exact trivial) | refine wgtrF ?_ | refine wneqF ?_ | refine we_seq ?_ | (refine wR ?_;try simp only [oS]) | refine wo_nil ?_ | refine wM ?_ | refine wA ?_ | refine wE ?_ | refine wF ?_ | refine we_skip ?_)
 rintro v' L' ⟨wg,rfl,rfl⟩
 repeat (first | refine we_seq ?_ | (refine wR ?_;try simp only [oS]) | refine wo_nil ?_)
 refine wo_begin g s0 (wg:=wg) (R:=arr rb 0 [.slice none 0 0,.slice none 0 0]::g.U s0::all (ts.map Thr.M)::F) (fun h st=>st) ?_
 repeat (first | (apply wo_mo;apply mo_alloc;exact trivial))
 rintro v' L' ⟨pb,rfl,rfl⟩
 repeat (first | refine we_seq ?_ | (refine wR ?_;try simp only [oS]) | refine wo_nil ?_ | refine wM ?_ | refine wE ?_ | refine we_block ?_)
 refine we_star (vec 1 (.slice none 0 0) (ptrs [])::all (seatCs g [] [])::arr pb 0 [.slice none 0 0,.slice none 0 0,.slice none 0 0]::shpC wg 87 2::arr rb 0 [.slice none 0 0,.slice none 0 0]::g.U s0::all (ts.map Thr.M)::F) (fun h st=>vec_nil (star_shut (M:=[]) st)) ?_
 refine we_loopN (startInvP ts s0 wg pb rb (.slice oa order.length oc) (.slice ta ts.length tc) (shpC wg 87 2::F)) (fun i=>ts.length-i.1) (0,s0,[],[],.slice none 0 0) ⟨by omega,rfl,rfl⟩ ⟨rfl,rfl,rfl,rfl,rfl,rfl,rfl,rfl,trivial⟩ (.take (.there (.there (.there (.there (.there .here))))) (.take (.there (.there .here)) (.take .here (.take .here (.take (.there (.there .here)) (.take (.there .here) (.take .here .refl))))))) rfl ?_
 rintro ⟨j,s,qs,ids,ss⟩ ⟨hj,hids,hst⟩
 simp only at hj hids hst
 have hqs:qs.length=j:=by have:=startF_len (ts.take j) s0;rw [hst] at this;simpa [Nat.min_eq_left hj] using this
 have hsl:(seatSs ids qs).length=ids.length:=by simp [seatSs];omega
 simp only [startInvP]
 by_cases hlt:j<ts.length
 ·obtain ⟨tb,to,rfl,hrd⟩:=hrt.rds (by omega)
  have ht:ts[j]?=some ts[j]:=List.getElem?_eq_getElem hlt
  have hrj:=hrd j (ts[j].fv) (by simp [ht])
  have hTO:=hts _ (List.getElem_mem hlt)
  have hdrop:ts.drop j=ts[j]::ts.drop (j+1):=List.drop_eq_getElem_cons hlt
  rw [hdrop]
  refine we_star (g.U s::arr pb 0 [ss,.slice none 0 0,.slice none 0 0]::vec 1 ss (ptrs ids)::all (seatCs g ids qs)::ts[j].M::all ((ts.drop (j+1)).map Thr.M)::arr rb 0 [.slice none 0 0,.slice none 0 0]::shpC wg 87 2::F) (fun h st=>Ent.star (.take (.there (.there .here)) (.take (.there (.there .here)) (.take (.there (.there .here)) (.take (.there (.there .here)) (.take .here (.take .here .refl)))))) (star_head (((.there (.there (.there (.there .here)))):Has _ (all ((ts[j]::ts.drop (j+1)).map Thr.M)) _).star st))) ?_
  repeat (first | (apply wo_po;apply mo_index1;exact rfl;exact rfl;omega;exact gY) | (apply wo_po;apply mo_load;exact rfl;exact .there (.there (.there (.there (.there (.there (.there (.there hrj)))))));exact trivial) | refine wlssT ?_ | refine we_seq ?_ | (refine wR ?_;try simp only [oS]) | refine wo_nil ?_ | refine wA ?_ | refine wT ?_ | refine we_skip ?_ | refine we_block ?_)
  let MI:=seatMid wg pb rb j ts.length (.slice oa order.length oc) (.slice (some ⟨tb,to,none⟩) ts.length tc) ts[j].fv (gx g wg (seatSs ids qs) (some s) 16384 (seatSs ids qs).length) (g.U s::arr pb 0 [ss,.slice none 0 0,.slice none 0 0]::vec 1 ss (ptrs ids)::all (seatCs g ids qs)::ts[j].M::all ((ts.drop (j+1)).map Thr.M)::arr rb 0 [.slice none 0 0,.slice none 0 0]::shpC wg 87 2::F)
  refine we_join MI ?_ ?_
  ·refine we_draw (List.range' 0 6) (by kernel_rfl) ?_
   refine ap_fork3 (f:=1) (g:=2) (ordf:=[1,0,2,3,4,5]) (ordg:=[2,0,1,3,4,5]) (Rf:=[2,3,4,5]) (Rg:=[1,3,4,5]) (by kernel_rfl) (by kernel_rfl) (by kernel_rfl) (by kernel_rfl) (by kernel_rfl) (by kernel_rfl) (by kernel_rfl) (by kernel_rfl) (by kernel_rfl) ?_ ?_ ?_
   ·refine ap1_mo (Pd':=[]) rfl rfl rfl trivial (mo_makeChan (m:=0) (k:=.i64) rfl (by omega) (by omega)) (fun v L' _ p hp=>by cases hp) ?_
    rintro v' L' ⟨ct,rfl,rfl⟩
    refine ap_fork2 (f:=2) (ordf:=[0,2,1,3,4,5]) (Rf:=[3,4,5]) (by kernel_rfl) (by kernel_rfl) (by kernel_rfl) (by kernel_rfl) (by kernel_rfl) ?_ ?_
    ·refine ap1_mo (Pd':=[]) rfl rfl rfl trivial (mo_makeChan (m:=0) (k:=.i64) rfl (by omega) (by omega)) (fun v L' _ p hp=>by cases hp) ?_
     rintro v' L' ⟨ce,rfl,rfl⟩
     refine ap_loud rfl rfl rfl rfl rfl trivial (mo_makeChan (m:=0) (k:=.i64) rfl (by omega) (by omega)) ?_
     rintro v' L' ⟨cs,rfl,rfl⟩
     repeat (first | (apply ap_pure;exact rfl;exact rfl;exact trivial;intro L;apply mo_build (pv:=[(0,_),(1,_),(2,_)]);exact rfl;exact .cons rfl (.cons rfl (.cons rfl .nil));exact rfl))
     refine ap_loud rfl rfl rfl rfl rfl trivial (mo_box rfl) ?_
     rintro v' L' ⟨sb,rfl,rfl⟩
     repeat (first | refine aA ?_ | refine ap_end ?_)
     refine at_mid (B:=mT) (I:=MI) (sb,cs,ct,ce) trivial ?_ ?_ rfl
     exact ⟨rfl,rfl,rfl,rfl,rfl,rfl,rfl,rfl,rfl,rfl,trivial⟩
     repeat (first | exact Ent.refl | (apply Ent.take;(repeat (first | exact Has.here | apply Has.there))) | apply Ent.drop)
    ·refine ap1_mo (Pd':=[]) rfl rfl rfl trivial (mo_makeChan (m:=0) (k:=.i64) rfl (by omega) (by omega)) (fun v L' _ p hp=>by cases hp) ?_
     rintro v' L' ⟨cs,rfl,rfl⟩
     refine ap_loud rfl rfl rfl rfl rfl trivial (mo_makeChan (m:=0) (k:=.i64) rfl (by omega) (by omega)) ?_
     rintro v' L' ⟨ce,rfl,rfl⟩
     repeat (first | (apply ap_pure;exact rfl;exact rfl;exact trivial;intro L;apply mo_build (pv:=[(0,_),(1,_),(2,_)]);exact rfl;exact .cons rfl (.cons rfl (.cons rfl .nil));exact rfl))
     refine ap_loud rfl rfl rfl rfl rfl trivial (mo_box rfl) ?_
     rintro v' L' ⟨sb,rfl,rfl⟩
     repeat (first | refine aA ?_ | refine ap_end ?_)
     refine at_mid (B:=mT) (I:=MI) (sb,cs,ct,ce) trivial ?_ ?_ rfl
     exact ⟨rfl,rfl,rfl,rfl,rfl,rfl,rfl,rfl,rfl,rfl,trivial⟩
     repeat (first | exact Ent.refl | (apply Ent.take;(repeat (first | exact Has.here | apply Has.there))) | apply Ent.drop)
   ·refine ap1_mo (Pd':=[]) rfl rfl rfl trivial (mo_makeChan (m:=0) (k:=.i64) rfl (by omega) (by omega)) (fun v L' _ p hp=>by cases hp) ?_
    rintro v' L' ⟨ce,rfl,rfl⟩
    refine ap_fork2 (f:=2) (ordf:=[1,2,0,3,4,5]) (Rf:=[3,4,5]) (by kernel_rfl) (by kernel_rfl) (by kernel_rfl) (by kernel_rfl) (by kernel_rfl) ?_ ?_
    ·refine ap1_mo (Pd':=[]) rfl rfl rfl trivial (mo_makeChan (m:=0) (k:=.i64) rfl (by omega) (by omega)) (fun v L' _ p hp=>by cases hp) ?_
     rintro v' L' ⟨ct,rfl,rfl⟩
     refine ap_loud rfl rfl rfl rfl rfl trivial (mo_makeChan (m:=0) (k:=.i64) rfl (by omega) (by omega)) ?_
     rintro v' L' ⟨cs,rfl,rfl⟩
     repeat (first | (apply ap_pure;exact rfl;exact rfl;exact trivial;intro L;apply mo_build (pv:=[(0,_),(1,_),(2,_)]);exact rfl;exact .cons rfl (.cons rfl (.cons rfl .nil));exact rfl))
     refine ap_loud rfl rfl rfl rfl rfl trivial (mo_box rfl) ?_
     rintro v' L' ⟨sb,rfl,rfl⟩
     repeat (first | refine aA ?_ | refine ap_end ?_)
     refine at_mid (B:=mT) (I:=MI) (sb,cs,ct,ce) trivial ?_ ?_ rfl
     exact ⟨rfl,rfl,rfl,rfl,rfl,rfl,rfl,rfl,rfl,rfl,trivial⟩
     repeat (first | exact Ent.refl | (apply Ent.take;(repeat (first | exact Has.here | apply Has.there))) | apply Ent.drop)
    ·refine ap1_mo (Pd':=[]) rfl rfl rfl trivial (mo_makeChan (m:=0) (k:=.i64) rfl (by omega) (by omega)) (fun v L' _ p hp=>by cases hp) ?_
     rintro v' L' ⟨cs,rfl,rfl⟩
     refine ap_loud rfl rfl rfl rfl rfl trivial (mo_makeChan (m:=0) (k:=.i64) rfl (by omega) (by omega)) ?_
     rintro v' L' ⟨ct,rfl,rfl⟩
     repeat (first | (apply ap_pure;exact rfl;exact rfl;exact trivial;intro L;apply mo_build (pv:=[(0,_),(1,_),(2,_)]);exact rfl;exact .cons rfl (.cons rfl (.cons rfl .nil));exact rfl))
     refine ap_loud rfl rfl rfl rfl rfl trivial (mo_box rfl) ?_
     rintro v' L' ⟨sb,rfl,rfl⟩
     repeat (first | refine aA ?_ | refine ap_end ?_)
     refine at_mid (B:=mT) (I:=MI) (sb,cs,ct,ce) trivial ?_ ?_ rfl
     exact ⟨rfl,rfl,rfl,rfl,rfl,rfl,rfl,rfl,rfl,rfl,trivial⟩
     repeat (first | exact Ent.refl | (apply Ent.take;(repeat (first | exact Has.here | apply Has.there))) | apply Ent.drop)
   ·refine ap1_mo (Pd':=[]) rfl rfl rfl trivial (mo_makeChan (m:=0) (k:=.i64) rfl (by omega) (by omega)) (fun v L' _ p hp=>by cases hp) ?_
    rintro v' L' ⟨cs,rfl,rfl⟩
    refine ap_fork2 (f:=1) (ordf:=[2,1,0,3,4,5]) (Rf:=[3,4,5]) (by kernel_rfl) (by kernel_rfl) (by kernel_rfl) (by kernel_rfl) (by kernel_rfl) ?_ ?_
    ·refine ap1_mo (Pd':=[]) rfl rfl rfl trivial (mo_makeChan (m:=0) (k:=.i64) rfl (by omega) (by omega)) (fun v L' _ p hp=>by cases hp) ?_
     rintro v' L' ⟨ct,rfl,rfl⟩
     refine ap_loud rfl rfl rfl rfl rfl trivial (mo_makeChan (m:=0) (k:=.i64) rfl (by omega) (by omega)) ?_
     rintro v' L' ⟨ce,rfl,rfl⟩
     repeat (first | (apply ap_pure;exact rfl;exact rfl;exact trivial;intro L;apply mo_build (pv:=[(0,_),(1,_),(2,_)]);exact rfl;exact .cons rfl (.cons rfl (.cons rfl .nil));exact rfl))
     refine ap_loud rfl rfl rfl rfl rfl trivial (mo_box rfl) ?_
     rintro v' L' ⟨sb,rfl,rfl⟩
     repeat (first | refine aA ?_ | refine ap_end ?_)
     refine at_mid (B:=mT) (I:=MI) (sb,cs,ct,ce) trivial ?_ ?_ rfl
     exact ⟨rfl,rfl,rfl,rfl,rfl,rfl,rfl,rfl,rfl,rfl,trivial⟩
     repeat (first | exact Ent.refl | (apply Ent.take;(repeat (first | exact Has.here | apply Has.there))) | apply Ent.drop)
    ·refine ap1_mo (Pd':=[]) rfl rfl rfl trivial (mo_makeChan (m:=0) (k:=.i64) rfl (by omega) (by omega)) (fun v L' _ p hp=>by cases hp) ?_
     rintro v' L' ⟨ce,rfl,rfl⟩
     refine ap_loud rfl rfl rfl rfl rfl trivial (mo_makeChan (m:=0) (k:=.i64) rfl (by omega) (by omega)) ?_
     rintro v' L' ⟨ct,rfl,rfl⟩
     repeat (first | (apply ap_pure;exact rfl;exact rfl;exact trivial;intro L;apply mo_build (pv:=[(0,_),(1,_),(2,_)]);exact rfl;exact .cons rfl (.cons rfl (.cons rfl .nil));exact rfl))
     refine ap_loud rfl rfl rfl rfl rfl trivial (mo_box rfl) ?_
     rintro v' L' ⟨sb,rfl,rfl⟩
     repeat (first | refine aA ?_ | refine ap_end ?_)
     refine at_mid (B:=mT) (I:=MI) (sb,cs,ct,ce) trivial ?_ ?_ rfl
     exact ⟨rfl,rfl,rfl,rfl,rfl,rfl,rfl,rfl,rfl,rfl,trivial⟩
     repeat (first | exact Ent.refl | (apply Ent.take;(repeat (first | exact Has.here | apply Has.there))) | apply Ent.drop)
  ·rintro ⟨sb,cs,ct,ce⟩ _
   simp only [MI,seatMid]
   repeat (first | refine we_seq ?_ | (refine wR ?_;try simp only [oS]) | refine wM ?_)
   refine wo_call (.cons rfl (.cons rfl (.cons rfl .nil))) trivial (Tr.ent (L':=g.U s::ts[j].M::arr sb 0 [.chan (some ct),.chan (some ce),.chan (some cs),.int .u8 0,.int .i64 0,.bool false]::ob cs newChan::ob ct newChan::ob ce newChan::arr pb 0 [ss,.slice none 0 0,.slice none 0 0]::vec 1 ss (ptrs ids)::all (seatCs g ids qs)::all ((ts.drop (j+1)).map Thr.M)::arr rb 0 [.slice none 0 0,.slice none 0 0]::shpC wg 87 2::F) (.take (.there (.there (.there (.there .here)))) (.take (.there (.there (.there (.there (.there (.there (.there .here))))))) (.take .here (.take .here (.take .here (.take .here .refl)))))) (run_tr hTO (by have:=hS j hlt;rw [hst] at this;exact this) (by rw [hsl];omega) (fun h st=>shp_of (.there (.there (.there (.there (.there .here))))) st))) ?_
   rintro v' L' x' ⟨rfl,rfl,rfl⟩
   refine wo_pure (of_has (.there (.there (.there (.there .here)))) (vec_shape (by omega))) ?_
   rintro ⟨sa,sn,sc,rfl,hsn,_⟩
   have hsn:sn=ids.length:=by simp [ptrs] at hsn;omega
   subst hsn
   repeat (first | (apply wo_mo;apply mo_buildSlice (sz:=1) (vs:=[.pointer (some ⟨sb,0,none⟩)]);exact rfl;exact .cons rfl .nil;exact rfl;(intro v hv;cases (List.mem_singleton.1 hv);exact rfl);omega;exact trivial) | (refine wR ?_;try simp only [oS]) | refine wo_nil ?_ | refine wM ?_ | refine wD ?_ | refine wL ?_)
   rintro v' L' ⟨nb,rfl,rfl⟩
   repeat (first | (apply wo_mo;apply mo_append (sz:=1) (new:=[.pointer (some ⟨sb,0,none⟩)]);exact rfl;exact rfl;exact rfl;exact rfl;exact (.there (.there (.there (.there (.there .here)))));exact rfl;exact .inr ⟨_,_,rfl,Rds.all .here⟩;(intro v hv;cases (List.mem_singleton.1 hv);exact rfl);(simp only [sliceLen];omega);exact trivial))
   rintro v' L' rfl
   refine wo_pure (of_has .here (vec_shape (by omega))) ?_
   rintro ⟨ua,un,uc,rfl,hun,_⟩
   repeat (first | refine wS ?_ | (refine wR ?_;try simp only [oS]) | refine wo_nil ?_ | refine wM ?_ | refine wD ?_ | refine wadd ?_)
   have hseats:seatCs g (ids++[⟨sb,cs,ct,ce⟩]) (qs++[(ts[j].ini s).2])=seatCs g ids qs++[seatC g ⟨sb,cs,ct,ce⟩ (ts[j].ini s).2]:=by
    unfold seatCs;rw [List.zipWith_append (by omega)];rfl
   have hseatS:seatSs (ids++[⟨sb,cs,ct,ce⟩]) (qs++[(ts[j].ini s).2])=seatSs ids qs++[seatS ⟨sb,cs,ct,ce⟩ (ts[j].ini s).2]:=by
    unfold seatSs;rw [List.zipWith_append (by omega)];rfl
   refine at_roundS (B:=mT) (I:=startInvP ts s0 wg pb rb (.slice oa order.length oc) (.slice (some ⟨tb,to,none⟩) ts.length tc) (shpC wg 87 2::F)) (R:=fun i'=>ts.length-i'.1<ts.length-j) (j+1,(ts[j].ini s).1,qs++[(ts[j].ini s).2],ids++[⟨sb,cs,ct,ce⟩],.slice ua un uc) (by show ts.length-(j+1)<ts.length-j;omega) ⟨by show j+1≤_;omega,by show (ids++[_]).length=j+1;simp;omega,?_⟩ ?_ (fun h st=>?_) ?_
   ·show startF (ts.take (j+1)) s0=_
    rw [List.take_succ_eq_append_getElem hlt,startF_snoc,hst]
   ·exact ⟨rfl,rfl,rfl,rfl,rfl,rfl,rfl,rfl,trivial⟩
   ·have s1:Star (seatR sb cs ct ce::arr sb 3 (lastC ((g.plan (ts[j].ini s).2).map (·.1)))::all (seatCs g ids qs)::g.U (ts[j].ini s).1::arr pb 0 [.slice ua un uc,.slice none 0 0,.slice none 0 0]::vec 1 (.slice ua un uc) (ptrs ids++[.pointer (some ⟨sb,0,none⟩)])::all ((ts.drop (j+1)).map Thr.M)::arr rb 0 [.slice none 0 0,.slice none 0 0]::shpC wg 87 2::F) h:=Ent.star (.take (.there (.there (.there .here))) (.take (.there (.there (.there .here))) (.take (.there (.there (.there (.there .here)))) (.take (.there (.there .here)) (.take (.there (.there .here)) (.take .here (.drop .refl))))))) st
    have s2:=star_push (c:=seatC g ⟨sb,cs,ct,ce⟩ (ts[j].ini s).2) (star_shut (M:=[_,_]) s1)
    rw [← hseats] at s2
    have e3:ptrs ids++[.pointer (some ⟨sb,0,none⟩)]=ptrs (ids++[⟨sb,cs,ct,ce⟩]):=by simp [ptrs]
    rw [e3] at s2
    exact Ent.star (.take (.there .here) (.take (.there .here) (.take (.there .here) (.take .here .refl)))) s2
   ·show gx g wg (seatSs (ids++[_]) (qs++[_])) _ _ _=_
    rw [hseatS]
    simp only [List.length_append,List.length_singleton]
    rfl
 ·obtain rfl:j=ts.length:=by omega
  rw [List.take_length] at hst
  rw [hsl]
  repeat (first | refine wlssF ?_ | refine we_seq ?_ | (refine wR ?_;try simp only [oS]) | refine wo_nil ?_ | refine wM ?_ | refine wE ?_ | refine wF ?_ | refine we_block ?_ | refine we_exit ?_)
  refine we_star (playL g pb ss (.slice none 0 0) (.slice none 0 0) ids (⟨s,qs,[]⟩:PS g) (arr rb 0 [.slice none 0 0,.slice none 0 0]::shpC wg 87 2::F)) (fun h st=>Ent.star (M:=playL g pb ss (.slice none 0 0) (.slice none 0 0) ids (⟨s,qs,[]⟩:PS g) (arr rb 0 [.slice none 0 0,.slice none 0 0]::shpC wg 87 2::F)) (.take (.there .here) (.take (.there .here) (.take (.there .here) (.take .here (.take .here (.drop .refl)))))) (vec_nil (sz:=3) st)) ?_
  refine we_loopN (ordInv (⟨s,qs,[]⟩:PS g) order ids wg pb rb (.slice oa order.length oc) ss (arr rb 0 [.slice none 0 0,.slice none 0 0]::shpC wg 87 2::F)) (fun i=>order.length-i.1) (0,.slice none 0 0) (Nat.zero_le _) ⟨rfl,rfl,rfl,rfl,rfl,rfl,trivial⟩ .refl rfl ?_
  have hI1:I (⟨s,qs,[]⟩:PS g):=by rw [hst] at hI0;exact hI0
  rintro ⟨i,tsv⟩ hi
  replace hi:i≤order.length:=hi
  have hpl:ids.length=(ordF (⟨s,qs,[]⟩:PS g) (order.take i)).qs.length:=by rw [ordF_len];show ids.length=qs.length;omega
  have hple:=ordF_le (order.take i) (⟨s,qs,[]⟩:PS g) (Nat.zero_le _)
  simp only [ordInv]
  by_cases hlt2:i<order.length
  ·obtain ⟨ob,oo,rfl,hrd⟩:=hro.rds (by omega)
   have hri:=hrd i (.int .i64 order[i]) (by rw [List.getElem?_map,List.getElem?_eq_getElem hlt2];rfl)
   repeat (first | (apply wo_po;apply mo_index1;exact rfl;exact rfl;omega;exact gY) | (apply wo_po;apply mo_load;exact rfl;exact .there (.there (.there (.there (.there (.there (.there hri))))));exact trivial) | refine wlssT ?_ | refine we_seq ?_ | (refine wR ?_;try simp only [oS]) | refine wo_nil ?_ | refine wM ?_ | refine wA ?_ | refine wT ?_ | refine we_skip ?_ | refine we_block ?_)
   refine wo_call (.cons rfl (.cons rfl .nil)) trivial (takes_tr hpl hple (hIo _ (hIord _ _ hI1))) ?_
   rintro v' L' x' ⟨ts',rfl,rfl,rfl⟩
   repeat (first | (refine wR ?_;try simp only [oS]) | refine wo_nil ?_ | refine wM ?_ | refine wadd ?_)
   have htk:(takeF (ordF (⟨s,qs,[]⟩:PS g) (order.take i)) order[i]).1=ordF (⟨s,qs,[]⟩:PS g) (order.take (i+1)):=by
    rw [List.take_succ_eq_append_getElem hlt2,ordF_snoc]
   rw [htk]
   refine at_round (B:=mT) (I:=ordInv (⟨s,qs,[]⟩:PS g) order ids wg pb rb (.slice (some ⟨ob,oo,none⟩) order.length oc) ss (arr rb 0 [.slice none 0 0,.slice none 0 0]::shpC wg 87 2::F)) (R:=fun i'=>order.length-i'.1<order.length-i) (i+1,ts') (by show order.length-(i+1)<order.length-i;omega) (show i+1≤order.length by omega) ?_ .refl rfl
   exact ⟨rfl,rfl,rfl,rfl,rfl,rfl,trivial⟩
  ·obtain rfl:i=order.length:=by omega
   rw [List.take_length] at hpl hple ⊢
   obtain ⟨p1,hp1⟩:∃ p1,ordF (⟨s,qs,[]⟩:PS g) order=p1:=⟨_,rfl⟩
   rw [hp1] at hpl hple ⊢
   repeat (first | refine wlssF ?_ | refine we_seq ?_ | (refine wR ?_;try simp only [oS]) | refine wo_nil ?_ | refine wA ?_ | refine wF ?_ | refine we_block ?_ | refine we_exit ?_)
   refine we_loopN (restInv I p1 ids wg pb rb ss (arr rb 0 [.slice none 0 0,.slice none 0 0]::shpC wg 87 2::F)) (fun i=>if i.2.2.2=true then i.1+1 else 0) (16385,p1,tsv,true) ⟨by rw [← hp1];exact hIord _ _ hI1,rfl,hple,by simp only [if_true];exact ⟨trivial,by omega⟩⟩ ⟨rfl,rfl,rfl,rfl,trivial⟩ .refl rfl ?_
   rintro ⟨n,p,tv2,more⟩ ⟨hIp,hq1,hq2,hq3⟩
   simp only at hIp hq1 hq2 hq3
   simp only [restInv]
   cases more with
   | true =>
    simp only [if_true] at hq3
    obtain ⟨n,rfl⟩:∃ m,n=m+1:=⟨n-1,by omega⟩
    have hpq:p.qs.length=ids.length:=by omega
    refine we_pure (of_has (.there (.there .here)) (vec_shape (by omega))) ?_
    rintro ⟨sa,sn,sc,rfl,hsn,_⟩
    have hsn:sn=ids.length:=by simp [ptrs] at hsn;omega
    subst hsn
    repeat (first | refine we_seq ?_ | (refine wR ?_;try simp only [oS]) | refine wo_nil ?_ | refine wM ?_ | refine wA ?_ | refine wD ?_ | refine wL ?_ | refine wE ?_ | refine wT ?_ | refine we_skip ?_ | refine we_block ?_)
    refine we_loopN (rndInvP p ids wg pb rb (.slice sa ids.length sc) (arr rb 0 [.slice none 0 0,.slice none 0 0]::shpC wg 87 2::F)) (fun i=>ids.length-i.1) (0,tv2) (Nat.zero_le _) ⟨rfl,rfl,rfl,rfl,rfl,rfl,trivial⟩ .refl rfl ?_
    rintro ⟨k,tv3⟩ hk
    replace hk:k≤ids.length:=hk
    simp only [rndInvP]
    by_cases hlt3:k<ids.length
    ·repeat (first | refine wlssT ?_ | refine we_seq ?_ | (refine wR ?_;try simp only [oS]) | refine wo_nil ?_ | refine wM ?_ | refine wA ?_ | refine wT ?_ | refine we_skip ?_ | refine we_block ?_)
     refine wo_call (.cons rfl (.cons rfl .nil)) trivial (takes_tr (by rw [roundF_len];omega) (roundF_le hq2 k) (hIo _ (hIrnd _ _ hIp))) ?_
     rintro v' L' x' ⟨ts',rfl,rfl,rfl⟩
     have hnx:roundF p (k+1)=((takeF (roundF p k).1 k).1,(takeF (roundF p k).1 k).2||(roundF p k).2):=rfl
     have hr1:(roundF p (k+1)).1=(takeF (roundF p k).1 k).1:=rfl
     obtain ⟨b,hb⟩:∃ b,(takeF (roundF p k).1 k).2=b:=⟨_,rfl⟩
     rw [hb,← hr1]
     cases b with
     | true =>
      repeat (first | (refine wR ?_;try simp only [oS]) | refine wo_nil ?_ | refine wM ?_ | refine wA ?_ | (apply wo_no;exact rfl) | refine wK ?_ | refine wadd ?_)
      refine at_round (B:=mT) (I:=rndInvP p ids wg pb rb (.slice sa ids.length sc) (arr rb 0 [.slice none 0 0,.slice none 0 0]::shpC wg 87 2::F)) (R:=fun i'=>ids.length-i'.1<ids.length-k) (k+1,ts') (by show ids.length-(k+1)<ids.length-k;omega) (show k+1≤ids.length by omega) ?_ .refl rfl
      exact ⟨rfl,rfl,rfl,by rw [hnx,hb];rfl,rfl,rfl,trivial⟩
     | false =>
      repeat (first | (refine wR ?_;try simp only [oS]) | refine wo_nil ?_ | refine wM ?_ | refine wA ?_ | refine wJ ?_ | refine wadd ?_)
      refine at_round (B:=mT) (I:=rndInvP p ids wg pb rb (.slice sa ids.length sc) (arr rb 0 [.slice none 0 0,.slice none 0 0]::shpC wg 87 2::F)) (R:=fun i'=>ids.length-i'.1<ids.length-k) (k+1,ts') (by show ids.length-(k+1)<ids.length-k;omega) (show k+1≤ids.length by omega) ?_ .refl rfl
      exact ⟨rfl,rfl,rfl,by rw [hnx,hb];rfl,rfl,rfl,trivial⟩
    ·obtain rfl:k=ids.length:=by omega
     repeat (first | refine wlssF ?_ | refine we_seq ?_ | (refine wR ?_;try simp only [oS]) | refine wo_nil ?_ | refine wF ?_ | refine we_exit ?_)
     have hg:=roundF_grow p ids.length
     have hle3:=roundF_le hq2 ids.length
     have hrest:restF (n+1) p=if (roundF p ids.length).2=true then restF n (roundF p ids.length).1 else (roundF p ids.length).1:=by
      show (if (roundF p p.qs.length).2=true then restF n (roundF p p.qs.length).1 else (roundF p p.qs.length).1)=_
      rw [hpq]
     refine at_round (B:=mT) (I:=restInv I p1 ids wg pb rb (.slice sa ids.length sc) (arr rb 0 [.slice none 0 0,.slice none 0 0]::shpC wg 87 2::F)) (R:=fun i'=>(if i'.2.2.2=true then i'.1+1 else 0)<(if true=true then (n+1)+1 else 0)) (n,(roundF p ids.length).1,tv3,(roundF p ids.length).2) ?_ ⟨hIrnd _ _ hIp,by show (roundF p ids.length).1.qs.length=_;rw [roundF_len];exact hq1,hle3,?_⟩ ?_ .refl rfl
     ·show (if (roundF p ids.length).2=true then n+1 else 0)<(if true=true then (n+1)+1 else 0)
      simp only [if_true]
      split <;> omega
     ·simp only
      rw [hrest] at hq3
      cases hb:(roundF p ids.length).2 with
      | true=>rw [hb] at hq3 hg;simp only [if_true] at hq3 hg ⊢;exact ⟨hq3.1,by omega⟩
      | false=>rw [hb] at hq3;simpa using hq3.1
     ·exact ⟨rfl,rfl,rfl,rfl,trivial⟩
   | false =>
    simp only [Bool.false_eq_true,if_false] at hq3
    have hplay:playF ts s0 order=p:=by rw [hq3,← hp1];unfold playF;rw [hst]
    rw [hplay] at hQ
    have hpq:p.qs.length=ids.length:=by omega
    refine we_pure (of_has (.there (.there .here)) (vec_shape (by omega))) ?_
    rintro ⟨sa,sn,sc,rfl,hsn,_,hnz,hy⟩
    have hsn:sn=ids.length:=by simp [ptrs] at hsn;omega
    subst hsn
    cases sa with
    | none=>have:=hnz rfl;omega
    | some ad =>
    obtain ⟨sb,so,sp⟩:=ad
    have:=hy _ rfl
    simp only [Addr.mk.injEq,true_and] at this
    subst this
    repeat (first | refine we_seq ?_ | (refine wR ?_;try simp only [oS]) | refine wo_nil ?_ | refine wM ?_ | refine wD ?_ | refine wL ?_ | refine wE ?_ | refine wF ?_ | refine we_block ?_ | refine we_exit ?_)
    refine we_star (vec 1 (.slice none 0 0) (cutC (cutN g p.qs 0))::arr pb 0 [.slice (some ⟨sb,so,none⟩) ids.length sc,tv2,.slice none 0 0]::vec 1 (.slice (some ⟨sb,so,none⟩) ids.length sc) (ptrs ids)::vec 3 tv2 (trCP p.tr)::all (seatCs g ids p.qs)::g.U p.s::arr rb 0 [.slice none 0 0,.slice none 0 0]::shpC wg 87 2::F) (fun h st=>vec_nil (Ent.star (.take (.there .here) (.take (.there .here) (.take (.there .here) (.take (.there .here) (.take .here .refl))))) st)) ?_
    refine we_loopN (cutInv p ids wg pb rb (.slice (some ⟨sb,so,none⟩) ids.length sc) tv2 (arr rb 0 [.slice none 0 0,.slice none 0 0]::shpC wg 87 2::F)) (fun i=>ids.length-i.1) (0,.slice none 0 0) (Nat.zero_le _) ⟨rfl,rfl,rfl,rfl,rfl,rfl,trivial⟩ .refl (by simp only [cutInv];rw [shutS_zero]) ?_
    rintro ⟨k,cv⟩ hk
    replace hk:k≤ids.length:=hk
    simp only [cutInv]
    by_cases hlt3:k<ids.length
    ·have hi:ids[k]?=some ids[k]:=List.getElem?_eq_getElem hlt3
     have hq:p.qs[k]?=some (p.qs[k]'(by omega)):=List.getElem?_eq_getElem _
     obtain ⟨i,hie⟩:∃ i,ids[k]=i:=⟨_,rfl⟩
     obtain ⟨q,hqe⟩:∃ q,(p.qs[k]'(by omega))=q:=⟨_,rfl⟩
     rw [hie] at hi
     rw [hqe] at hq
     let er:=all ((seatCs g ids p.qs).eraseIdx k)
     refine we_star (seatR i.sb i.says i.turn i.fin::arr i.sb 3 (lastQ g q)::er::vec 1 cv (cutC (cutN g p.qs k))::arr pb 0 [.slice (some ⟨sb,so,none⟩) ids.length sc,tv2,cv]::vec 1 (.slice (some ⟨sb,so,none⟩) ids.length sc) (ptrs ids)::vec 3 tv2 (trCP p.tr)::g.U p.s::arr rb 0 [.slice none 0 0,.slice none 0 0]::shpC wg 87 2::F) (fun h st=>seat_pick hi hq (((.there (.there (.there (.there .here)))):Has (_::_::_::_::all (seatCs g ids p.qs)::_) _ _).star st)) ?_
     have hback:∀ {cv':Value} {cl:List Value} h,Star (seatR i.sb i.says i.turn i.fin::arr i.sb 3 (lastQ g q)::er::vec 1 cv' cl::arr pb 0 [.slice (some ⟨sb,so,none⟩) ids.length sc,tv2,cv']::vec 1 (.slice (some ⟨sb,so,none⟩) ids.length sc) (ptrs ids)::vec 3 tv2 (trCP p.tr)::g.U p.s::arr rb 0 [.slice none 0 0,.slice none 0 0]::shpC wg 87 2::F) h →
       Star (vec 1 cv' cl::arr pb 0 [.slice (some ⟨sb,so,none⟩) ids.length sc,tv2,cv']::vec 1 (.slice (some ⟨sb,so,none⟩) ids.length sc) (ptrs ids)::vec 3 tv2 (trCP p.tr)::all (seatCs g ids p.qs)::g.U p.s::arr rb 0 [.slice none 0 0,.slice none 0 0]::shpC wg 87 2::F) h:=fun h st=>by
      have s1:=seat_put (q':=q) hi hq st
      rw [set_same hq] at s1
      exact Ent.star (.take (.there .here) (.take (.there .here) (.take (.there .here) (.take (.there .here) (.take .here .refl))))) s1
     have hcl:(cutN g p.qs k).length≤k:=by have:=List.length_filter_le (fun k=>((p.qs[k]?).bind g.plan).isSome) (List.range k);rw [List.length_range] at this;exact this
     have hget:(shutS ids p.qs k)[k]?=some (⟨i.says,i.turn,i.fin,.said q⟩:Seat g.σ g.θ):=by rw [shutS_get hi hq,if_neg (by omega)];rfl
     have hsl2:ids.length=(shutS ids p.qs k).length:=(shutS_len hpq.symm).symm
     have rs:∀ {a b c d e:HProp} {M:List HProp},Rd (a::b::c::d::e::vec 1 (.slice (some ⟨sb,so,none⟩) ids.length sc) (ptrs ids)::M) sb (so+k) (.pointer (some ⟨i.sb,0,none⟩)):=rd_vec (cs:=ptrs ids) (.there (.there (.there (.there (.there .here))))) (by simp [ptrs,hi])
     refine we_pure (of_has (.there (.there (.there .here))) (vec_shape (by omega))) ?_
     rintro ⟨ca,cn,cc,rfl,hcn,_⟩
     have hcn:cn=(cutN g p.qs k).length:=by simp [cutC] at hcn;omega
     subst hcn
     cases hpl2:g.plan q with
     | none =>
      have hlq:lastQ g q=[.int .u8 0,.int .i64 0,.bool true]:=by unfold lastQ;rw [hpl2];rfl
      have hcut:cutN g p.qs (k+1)=cutN g p.qs k:=by rw [cutN_succ,hq];simp [hpl2]
      rw [hlq] at hback ⊢
      have rl:∀ {a:HProp} {M:List HProp},Rd (a::arr i.sb 3 [.int .u8 0,.int .i64 0,.bool true]::M) i.sb 5 (.bool true):=.there (Rd.row (k:=2) rfl rfl)
      have re:∀ {M:List HProp},Rd (seatR i.sb i.says i.turn i.fin::M) i.sb 1 (.chan (some i.fin)):=Rd.fro (k:=1) rfl rfl
      repeat (first | (apply wo_po;apply mo_index1;exact rfl;exact rfl;omega;exact gY) | (apply wo_po;apply mo_load;exact rfl;(first | exact rs | exact rl | exact re);exact trivial) | refine wlssT ?_ | refine we_seq ?_ | (refine wR ?_;try simp only [oS]) | refine wo_nil ?_ | refine wM ?_ | refine wA ?_ | refine wN ?_ | refine wD ?_ | (apply wo_po;apply mo_not;exact rfl;exact gY) | refine wT ?_ | refine wF ?_ | refine we_skip ?_ | refine we_block ?_)
      refine wo_shut (X:=⟨g,wg,shutS ids p.qs k,some p.s,16384-p.tr.length,ids.length,false,.play,none,0⟩) (j:=k) (c:=⟨i.says,i.turn,i.fin,.said q⟩) (q0:=q) rfl rfl rfl hsl2 rfl hget rfl trivial (by decide) ?_
      repeat (first | (refine wR ?_;try simp only [oS]) | refine wo_nil ?_ | refine wM ?_ | refine wadd ?_)
      refine at_roundS (B:=mT) (I:=cutInv p ids wg pb rb (.slice (some ⟨sb,so,none⟩) ids.length sc) tv2 (arr rb 0 [.slice none 0 0,.slice none 0 0]::shpC wg 87 2::F)) (R:=fun i'=>ids.length-i'.1<ids.length-k) (k+1,.slice ca (cutN g p.qs k).length cc) (by show ids.length-(k+1)<ids.length-k;omega) (show k+1≤ids.length by omega) ?_ (fun h st=>?_) ?_
      ·exact ⟨rfl,rfl,rfl,rfl,rfl,rfl,trivial⟩
      ·show Star (vec 1 _ (cutC (cutN g p.qs (k+1)))::_) h
       rw [hcut]
       exact hback h st
      ·simp only [cutInv]
       rw [← shutS_succ hi hq]
     | some mf =>
      obtain ⟨m,f⟩:=mf
      have hlq:lastQ g q=[.int .u8 m.1,.int .i64 m.2,.bool false]:=by unfold lastQ;rw [hpl2];rfl
      have hcut:cutN g p.qs (k+1)=cutN g p.qs k++[k]:=by rw [cutN_succ,hq];simp [hpl2]
      rw [hlq] at hback ⊢
      have rl:∀ {a:HProp} {M:List HProp},Rd (a::arr i.sb 3 [.int .u8 m.1,.int .i64 m.2,.bool false]::M) i.sb 5 (.bool false):=.there (Rd.row (k:=2) rfl rfl)
      have re:∀ {a b:HProp} {M:List HProp},Rd (a::b::seatR i.sb i.says i.turn i.fin::M) i.sb 1 (.chan (some i.fin)):=.there (.there (Rd.fro (k:=1) rfl rfl))
      repeat (first | (apply wo_po;apply mo_index1;exact rfl;exact rfl;omega;exact gY) | (apply wo_po;apply mo_load;exact rfl;(first | exact rs | exact rl);exact trivial) | (apply wo_mo;apply mo_buildSlice (sz:=1) (vs:=[.int .i64 (k:Nat)]);exact rfl;exact .cons rfl .nil;exact rfl;(intro v hv;cases (List.mem_singleton.1 hv);exact rfl);omega;exact trivial) | refine wlssT ?_ | refine we_seq ?_ | (refine wR ?_;try simp only [oS]) | refine wo_nil ?_ | refine wM ?_ | refine wA ?_ | refine wN ?_ | refine wD ?_ | (apply wo_po;apply mo_not;exact rfl;exact gY) | refine wL ?_ | refine wT ?_ | refine we_skip ?_ | refine we_block ?_)
      rintro v' L' ⟨nb,rfl,rfl⟩
      repeat (first | (apply wo_mo;apply mo_append (sz:=1) (new:=[.int .i64 (k:Nat)]);exact rfl;exact rfl;exact rfl;exact rfl;exact (.there (.there (.there (.there .here))));exact rfl;exact .inr ⟨_,_,rfl,Rds.all .here⟩;(intro v hv;cases (List.mem_singleton.1 hv);exact rfl);(simp only [sliceLen];omega);exact trivial))
      rintro v' L' rfl
      refine wo_pure (of_has .here (vec_shape (by omega))) ?_
      rintro ⟨ua,un,uc,rfl,hun,_⟩
      repeat (first | refine wS ?_ | (apply wo_po;apply mo_load;exact rfl;exact re;exact trivial) | (refine wR ?_;try simp only [oS]) | refine wo_nil ?_ | refine wM ?_ | refine wN ?_ | refine wD ?_)
      refine wo_shut (X:=⟨g,wg,shutS ids p.qs k,some p.s,16384-p.tr.length,ids.length,false,.play,none,0⟩) (j:=k) (c:=⟨i.says,i.turn,i.fin,.said q⟩) (q0:=q) rfl rfl rfl hsl2 rfl hget rfl trivial (by decide) ?_
      repeat (first | (refine wR ?_;try simp only [oS]) | refine wo_nil ?_ | refine wM ?_ | refine wadd ?_)
      refine at_roundS (B:=mT) (I:=cutInv p ids wg pb rb (.slice (some ⟨sb,so,none⟩) ids.length sc) tv2 (arr rb 0 [.slice none 0 0,.slice none 0 0]::shpC wg 87 2::F)) (R:=fun i'=>ids.length-i'.1<ids.length-k) (k+1,.slice ua un uc) (by show ids.length-(k+1)<ids.length-k;omega) (show k+1≤ids.length by omega) ?_ (fun h st=>?_) ?_
      ·exact ⟨rfl,rfl,rfl,rfl,rfl,rfl,trivial⟩
      ·show Star (vec 1 _ (cutC (cutN g p.qs (k+1)))::_) h
       have e4:cutC (cutN g p.qs (k+1))=cutC (cutN g p.qs k)++[.int .i64 (k:Nat)]:=by rw [hcut];simp [cutC]
       rw [e4]
       exact hback h (Ent.star (.take (.there (.there .here)) (.take (.there (.there .here)) (.take (.there (.there .here)) (.take .here (.drop .refl))))) st)
      ·simp only [cutInv]
       rw [← shutS_succ hi hq]
    ·obtain rfl:k=ids.length:=by omega
     repeat (first | refine wlssF ?_ | refine we_seq ?_ | (refine wR ?_;try simp only [oS]) | refine wo_nil ?_ | refine wF ?_ | refine we_exit ?_)
     refine wo_call (.cons rfl .nil) trivial (wgWait_tr (X:=⟨g,wg,shutS ids p.qs ids.length,some p.s,16384-p.tr.length,ids.length,false,.play,none,0⟩) rfl (by show ids.length<1000;omega) (shutS_len hpq.symm).symm (shutS_closed hpq.symm) (fun d e=>by cases e) rfl (fun h st=>shp_of (.there (.there (.there (.there (.there (.there (.there .here))))))) st)) ?_
     rintro v' L' x' ⟨rfl,rfl,rfl⟩
     rw [show GX.ends ⟨g,wg,shutS ids p.qs ids.length,some p.s,16384-p.tr.length,ids.length,false,.play,none,0⟩=all (p.qs.map g.Fin) from congrArg all (shutS_all hpq.symm)]
     repeat (first | (apply wo_po;apply mo_loadA (vs:=[tv2,cv]);exact rfl;exact rfl;exact Rds.row (k:=1) (.there (.there .here)) (by intro i v hv;match i,hv with | 0,hv=>exact hv | 1,hv=>exact hv);exact trivial) | refine we_seq ?_ | (refine wR ?_;try simp only [oS]) | refine wo_nil ?_ | refine wD ?_)
     refine wo_pure (of_has (.there .here) (vec_shape (by omega))) ?_
     rintro ⟨ca,cn,cc,rfl,_⟩
     refine wo_pure (of_has (.there (.there (.there (.there .here)))) (vec_shape (by omega))) ?_
     rintro ⟨ta2,tn2,tc2,rfl,_⟩
     repeat (first | (apply wo_pm;apply mo_storeA (c:=0) (k:=0) (a:=0) (vs:=[.slice none 0 0,.slice none 0 0]);exact rfl;exact rfl;exact rfl;(intro w hw;simp [Value.cells] at hw;rcases hw with rfl | rfl <;> rfl);exact rfl;exact Nat.le_refl 2;exact (.there (.there (.there (.there (.there (.there (.there .here)))))));exact trivial) | refine wo_nil ?_ | refine wA ?_ | refine we_ret ?_)
     refine at_leaveM (rs:=[.cell 4 29,.tmp 5]) Try.func17 Try.results17 hQ (.inl rfl) (.cons (.cell (vs:=[.slice ta2 tn2 tc2,.slice ca cn cc]) rfl rfl (Rds.all (.there (.there (.there (.there (.there (.there (.there .here))))))))) (.cons (.tmp rfl) .nil)) ?_
     refine ⟨_,_,rfl,rfl,fun h st=>?_⟩
     rw [← hids]
     exact Ent.star (.take (.there (.there (.there (.there .here)))) (.take (.there .here) (.take (.there (.there (.there (.there .here)))) (.take .here (.drop (.drop (.drop (.drop (.drop .refl))))))))) st
theorem plays_tr {oa ta:Option Addr} {on oc tn tc:Nat} {order:List Int} (I:PS g→Prop) (hS:∀ j,j<ts.length→g.ok (startF (ts.take j) s0).1) (hI0:I ⟨(startF ts s0).1,(startF ts s0).2,[]⟩) (hIs:∀ p k,I p→I (takeF p k).1) (hIo:∀ p,I p→p.tr.length<16384→g.ok p.s) (hfin:∀ q h,g.Pv q h→g.Fin q h) (hts:∀ t∈ts,ThrOk g t.ini t.fv t.M) (h1:0<ts.length) (h16:ts.length≤16) (hor:order.length≤16384)
  (hrt:RdsO F ta tn (ts.map Thr.fv)) (hro:RdsO F oa on (order.map fun k=>.int .i64 k)) :
  Tr Try.prog mT 17 [.slice oa on oc,.slice ta tn tc] (g.U s0::all (ts.map Thr.M)::F) .idle fun v L' x' =>
   ∃ tv cv,v=.tuple #[.agg #[tv,cv],.int .i64 0]∧x'=.idle∧L'=vec 3 tv (trCP (playF ts s0 order).tr)::vec 1 cv (cutC (cutN g (playF ts s0 order).qs ts.length))::g.U (playF ts s0 order).s::all ((playF ts s0 order).qs.map g.Fin)::F :=
 playsR_tr I hS hI0 hIs hIo (fun t ht=>(hts t ht).r hfin) h1 h16 hor hrt hro
end
end
end Go.Proofs.Ytabbkjciifnehaa
namespace Go.Proofs.Ytabbkjciifnehaa
open Go Go.PB
section
section
variable {g:Game}
theorem ordF_inv {I:PS g→Prop} (hs:∀ p k,I p→I (takeF p k).1):∀ (l:List Int) (p:PS g),I p→I (ordF p l)
 | [],p,h=>h
 | k::l,p,h=>ordF_inv hs l _ (hs p k h)
theorem roundF_inv {I:PS g→Prop} (hs:∀ p k,I p→I (takeF p k).1) {p:PS g} (h:I p):∀ n,I (roundF p n).1
 | 0=>h
 | n+1=>hs _ _ (roundF_inv hs h n)
theorem restF_inv {I:PS g→Prop} (hs:∀ p k,I p→I (takeF p k).1):∀ (n:Nat) (p:PS g),I p→I (restF n p)
 | 0,p,h=>h
 | n+1,p,h=>by
  unfold restF
  split
  ·exact restF_inv hs n _ (roundF_inv hs h _)
  ·exact roundF_inv hs h _
theorem playF_inv {I:PS g→Prop} (hs:∀ p k,I p→I (takeF p k).1) {ts:List (Thr g)} {s:g.σ} {o:List Int} (h0:I ⟨(startF ts s).1,(startF ts s).2,[]⟩):I (playF ts s o) :=
 restF_inv hs _ _ (ordF_inv hs _ _ h0)
end
def sumN (l:List Nat):Nat:=l.foldr (·+·) 0
end
end Go.Proofs.Ytabbkjciifnehaa
namespace Go.PB
section
section
variable {P:Program} {xt:TypeId} {x y:Operand} {a b:ByteArray}
theorem bin_cat (h:a.size+b.size≤9223372036854775807):Bin P .add xt x y (.string a) (.string b) (.string (a++b)):=by
 intro M hh Q X q
 have:binOp .add xt (.string a) (.string b)=(pure (.string (a++b)):Sem Value):=by
  show Op.stringOp .add a b=_
  unfold Op.stringOp
  have hm:IntKind.i64.max=9223372036854775807:=rfl
  simp only
  rw [if_neg (by rw [hm];omega)]
 rw [this];exact q
theorem bin_streq {r:Bool} (h:(a.toList == b.toList)=r):Bin P .eql xt x y (.string a) (.string b) (.bool r):=by
 subst h
 intro M hh Q X q
 exact q
theorem wpS_partA {M:Mark→Prop} {α:Type} {t:TypeId} {n:Nat} {cs:Array Value} {off:Nat} {kk:Value→Sem α} (ha:aggOf P t=some true) (hz:szOf P t=some n) {h:Hp} {Q:α→Hp→Prop} {X:Value→Hp→Prop} (q:wpS P M (kk (.agg (cs.extract off (off+n)))) h Q X) :
  wpS P M (Sem.bind (part t cs off) kk) h Q X:=by
 refine wpS_bind _ _ ?_
 unfold part
 refine wpS_isAgg (q:=true) ha ?_
 simp only [if_true]
 refine wpS_sizeOf hz ?_
 exact q
theorem eql_turned {t t1:TypeId} {f0 f1 g0 g1:Field} {k0 k1 k2:IntKind} {a0 b0 a1 b1 a2 b2:Int} [p:Und P t (.struct #[f0,f1])] [p1:Und P t1 (.struct #[g0,g1])] [sz:Siz P t1 2] (hs:P.stoodInHeld t=false) (hs1:P.stoodInHeld t1=false) (hg:P.eqGuardType P.depth t=false)
  (n0:f0.name ≠ "_") (n1:f1.name ≠ "_") (m0:g0.name ≠ "_") (m1:g1.name ≠ "_") (o0:f0.offset=0) (o1:f1.offset=1) (q0:g0.offset=0) (q1:g1.offset=1) (ft1:f1.type=t1) (t0:P.underlying f0.type=some (.int k0)) (u0:P.underlying g0.type=some (.int k1)) (u1:P.underlying g1.type=some (.int k2)) :
  Eql P t x y (.agg #[.int k0 a0,.int k1 a1,.int k2 a2]) (.agg #[.int k0 b0,.int k1 b1,.int k2 b2]) (decide (a0=b0∧a1=b1∧a2=b2)) :=
 eql_agg hg fun {M h Q X} q=>by
  rw [equal_def]
  unfold Op.equalIn
  refine wpS_underlying p.ok ?_
  dsimp only
  refine wpS_program (β:=Unit) ?_
  simp only [hs,Bool.false_eq_true,if_false,← Array.forIn_toList,List.forIn_cons,List.forIn_nil,n0,n1,ne_eq,not_false_eq_true,if_true,bind_assoc,pure_bind,o0,o1,ft1]
  have ha:aggOf P t1=some true:=by unfold aggOf;rw [p1.ok];rfl
  refine wpS_partI t0 rfl (wpS_partI t0 rfl (wpS_equalI (d:=9998) t0 ?_))
  by_cases e0:a0=b0
  ·subst e0
   simp only [beq_self_eq_true,Bool.not_true,Bool.false_eq_true,if_false,pure_bind,bind_assoc]
   refine wpS_partA ha sz.ok (wpS_partA ha sz.ok (wpS_bind _ _ ?_))
   refine equalIn_two (d:=9997) p1.ok hs1 m0 m1 q0 q1 u0 u1 ?_
   by_cases e1:a1=b1∧a2=b2
   ·obtain ⟨rfl,rfl⟩:=e1
    simp only [decide_true,and_self,Bool.not_true,Bool.false_eq_true,if_false,pure_bind]
    have q':Q true h:=by simpa using q
    exact q'
   ·simp only [e1,decide_false,Bool.not_false,if_true,pure_bind]
    have q':Q false h:=by simpa [e1] using q
    exact q'
  ·have:(a0 == b0)=false:=by simp [e0]
   simp only [this,Bool.not_false,if_true,pure_bind,bind_assoc]
   have q':Q false h:=by simpa [e0] using q
   exact q'
end
theorem wo_join {P:Program} {B:Hand} {kd:CallKind} {n:Nat} {K:Post B} {e:Env} {z:Z} {L:List HProp} {x:B.X} {l:List OpG} {c:Code} {ι:Type} (I:Inv ι B.X) (w:Wo P B kd n l (midK I n z K) e z L x) (k:∀ i,I.ok i→We P B kd n c K (I.e i) z (I.L i) (I.x i)):Wo P B kd n l (thn P B kd c K) e z L x :=
 fun ops idx h1 h2 t h a1 a2 a3=>fun main S C b kk cs hb ha=>w ops idx h1 h2 t h a1 a2 a3 main S C b kk cs hb fun ex t z' h x q=>ha ex t z' h x (mid_out I k ex t z' h x q)
theorem mo_sliceTo {P:Program} {e:Env} {ty:TypeId} {L:List HProp} {t el sz b off n c u:Nat} {k:IntKind} {j:Int} {o hi:Operand} [p:SlT P t el] [s:Siz P el sz] (hx:ev e o=some (.slice (some ⟨b,off,none⟩) n c)) (hh:ev e hi=some (.int k j)) (hj:j=(u:Nat)) (hu:u≤c) (hc:0<c) :
  Mo P e (.slice t o none (some hi) none) ty L fun v' L'=>v'=.slice (some ⟨b,off,none⟩) u c∧L'=L:=by
 have h:=mo_slice (P:=P) (e:=e) (ty:=ty) (L:=L) (t:=t) (l:=0) (u:=u) hx .no (.yes hh hj) (Nat.zero_le _) hu
 rw [if_neg (by omega)] at h
 simpa [add_none] using h
end
end Go.PB
namespace Go.Proofs.Ytabbkjciifnehaa
open Go Go.PB
attribute [local irreducible] Mo Bin Eql Tr Wo Ap Wle
section
def cntIn (sum all k:Nat):Nat→Option (Nat × Nat)
 | 0=>some (sum,all)
 | r+1=>if 16384<all*(sum+1)/(k+1) then none else cntIn (sum+1) (all*(sum+1)/(k+1)) (k+1) r
def cntF (sum all:Nat):List Nat→Option Nat
 | []=>some all
 | n::l=>(cntIn sum all 0 n).bind fun sa=>cntF sa.1 sa.2 l
def overF (s:Int):List Int→Bool
 | []=>false
 | n::l=>decide (16384-s<n)||overF (s+n) l
def wrongF (l:List Int):Int:=if ∃ n∈l,n<0 then 2 else if 16<l.length then 4 else if overF 0 l=true then 4 else 0
def sumI (l:List Int):Int:=l.foldr (·+·) 0
theorem overF_sum:∀ (l:List Int) (s:Int),(∀ n∈l,0≤n)→s≤16384→overF s l=false→s+sumI l≤16384
 | [],s,_,h,_=>by simpa [sumI] using h
 | n::l,s,hn,h,ho=>by
  simp only [overF,Bool.or_eq_false_iff,decide_eq_false_iff_not] at ho
  have:=overF_sum l (s+n) (fun m hm=>hn m (by simp [hm])) (by omega) ho.2
  simp only [sumI,List.foldr_cons] at this ⊢
  omega
theorem sumI_nonneg:∀ (l:List Int),(∀ n∈l,0≤n)→0≤sumI l
 | [],_=>by simp [sumI]
 | n::l,h=>by
  have h1:=sumI_nonneg l fun m hm=>h m (by simp [hm])
  have h2:=h n (by simp)
  simp only [sumI,List.foldr_cons] at h1 ⊢
  omega
section
variable {B:Hand} [Lets B] {L:List HProp} {x:B.X} {a:Option Addr} {n c:Nat} {l:List Int}
abbrev ints (l:List Int):List Value:=l.map fun k=>.int .i64 k
def minInv (sv:Value) (l:List Int) (L:List HProp) (x:B.X):PB.Inv (Nat × Int) B.X where
 e:=fun i=>[(0,sv),(3,.int .i64 i.2),(4,.int .i64 (i.1:Nat))]
 L:=fun _=>L
 x:=fun _=>x
 ok:=fun i=>i.1≤l.length∧(∀ k v,k<i.1→l[k]?=some v→i.2≤v)∧i.2∈l
theorem min_tr (hr:RdsO L a n (ints l)) (h0:0<l.length) (hb:n≤17592186043904) :
  Tr Try.prog B 51 [.slice a n c] L x fun v L' x'=>(∃ m:Int,v=.int .i64 m∧(m<0↔∃ k∈l,k<0))∧L'=L∧x'=x:=by
 have hn:n=l.length:=by have:=hr.1;simpa using this
 subst hn
 obtain ⟨b,o,rfl,hrd⟩:=hr.rds h0
 have hri:∀ i (h:i<l.length),Rd L b (o+i) (.int .i64 l[i]):=fun i h=>hrd i _ (by rw [List.getElem?_map,List.getElem?_eq_getElem h];rfl)
 refine tr_of_body Try.func51 rfl Try.ntmps51 (by simp) fun um Q _ hQ=>?_
 simp only [argE,Nat.zero_add,Nat.reduceAdd]
 repeat (first | (apply wo_po;apply mo_index1 (j:=0);exact rfl;exact rfl;omega;exact trivial) | (apply wo_po;apply mo_load;exact rfl;exact hri 0 h0;exact trivial) | refine wlssF ?_ | refine we_seq ?_ | (refine wR ?_;try simp only [oS]) | refine wo_nil ?_ | refine wM ?_ | refine wA ?_ | refine wE ?_ | refine wF ?_ | refine we_skip ?_ | refine we_block ?_)
 refine we_loopN (minInv (.slice (some ⟨b,o,none⟩) l.length c) l L x) (fun i=>l.length-i.1) (1,l[0]) ⟨by show 1≤l.length;omega,fun k v hk hv=>?_,List.getElem_mem h0⟩ ⟨rfl,rfl,rfl,trivial⟩ .refl rfl ?_
 ·obtain rfl:k=0:=by simp only at hk;omega
  rw [List.getElem?_eq_getElem h0] at hv;cases hv;exact Int.le_refl _
 rintro ⟨i,m⟩ ⟨hi,hm1,hm2⟩
 simp only at hi hm1 hm2
 simp only [minInv]
 by_cases hlt:i<l.length
 ·repeat (first | (apply wo_po;apply mo_index1;exact rfl;exact rfl;omega;exact gY) | (apply wo_po;apply mo_load;exact rfl;exact hri i hlt;exact trivial) | refine wlssT ?_ | refine we_seq ?_ | (refine wR ?_;try simp only [oS]) | refine wo_nil ?_ | refine wM ?_ | refine wA ?_ | refine wadd ?_ | refine wE ?_ | (apply wo_po;apply mo_min;exact rfl;exact rfl;exact gY) | refine wT ?_ | refine we_skip ?_ | refine we_block ?_)
  refine at_round (I:=minInv (.slice (some ⟨b,o,none⟩) l.length c) l L x) (R:=fun j=>l.length-j.1<l.length-i) (i+1,min m l[i]) (by show l.length-(i+1)<l.length-i;omega) ⟨by show i+1≤l.length;omega,fun k v hk hv=>?_,?_⟩ ⟨rfl,rfl,rfl,trivial⟩ .refl rfl
  ·simp only at hk ⊢
   by_cases e:k=i
   ·subst e;rw [List.getElem?_eq_getElem hlt] at hv;cases hv;exact Int.min_le_right _ _
   ·exact Int.le_trans (Int.min_le_left _ _) (hm1 k v (by omega) hv)
  ·simp only
   rcases Int.le_total m l[i] with h | h
   ·rw [Int.min_eq_left h];exact hm2
   ·rw [Int.min_eq_right h];exact List.getElem_mem hlt
 ·repeat (first | refine wlssF ?_ | refine we_seq ?_ | (refine wR ?_;try simp only [oS]) | refine wo_nil ?_ | refine wM ?_ | refine wA ?_ | refine wE ?_ | refine wF ?_ | refine we_ret ?_ | refine we_exit ?_)
  (first | refine or1 Try.func51 Try.results51 hQ rfl ?_ | refine on1 Try.func51 Try.results51 hQ rfl ?_)
  refine ⟨⟨m,rfl,fun h=>⟨m,hm2,h⟩,?_⟩,rfl,rfl⟩
  rintro ⟨k,hk,hk0⟩
  obtain ⟨j,hj⟩:=List.mem_iff_getElem?.1 hk
  have:=hm1 j k (by have:=(List.getElem?_eq_some_iff.1 hj).1;omega) hj
  omega
def sumInv (sv:Value) (l:List Int) (L:List HProp) (x:B.X):PB.Inv (Nat × Int) B.X where
 e:=fun i=>[(0,sv),(4,.int .i64 i.2),(5,.int .i64 1),(22,sv),(23,.int .i64 (l.length:Nat)),(24,.int .i64 (i.1:Nat))]
 L:=fun _=>L
 x:=fun _=>x
 ok:=fun i=>i.1≤l.length∧0≤i.2∧i.2≤16384∧overF i.2 (l.drop i.1)=overF 0 l
def cntInvP (sv:Value) (l:List Int) (L:List HProp) (x:B.X):PB.Inv (Nat × Nat × Nat) B.X where
 e:=fun i=>[(4,.int .i64 (i.2.1:Nat)),(5,.int .i64 (i.2.2:Nat)),(36,sv),(37,.int .i64 (l.length:Nat)),(38,.int .i64 (i.1:Nat))]
 L:=fun _=>L
 x:=fun _=>x
 ok:=fun i=>i.1≤l.length∧(i.2.1:Int)+sumI (l.drop i.1)≤16384∧i.2.2≤16384∧cntF i.2.1 i.2.2 ((l.drop i.1).map Int.toNat)=cntF 0 1 (l.map Int.toNat)
def cntInv2 (sv:Value) (m n j:Nat) (s0 a0:Nat) (L:List HProp) (x:B.X):PB.Inv (Nat × Nat × Nat) B.X where
 e:=fun i=>[(4,.int .i64 (i.2.1:Nat)),(5,.int .i64 (i.2.2:Nat)),(36,sv),(37,.int .i64 (m:Nat)),(38,.int .i64 (j:Nat)),(42,.int .i64 (n:Nat)),(43,.int .i64 (i.1:Nat))]
 L:=fun _=>L
 x:=fun _=>x
 ok:=fun i=>i.1≤n∧i.2.1=s0+i.1∧i.2.2≤16384∧cntIn i.2.1 i.2.2 i.1 (n-i.1)=cntIn s0 a0 0 n
theorem count_tr (hr:RdsO L a n (ints l)) (hb:n≤17592186043904) :
  Tr Try.prog B 26 [.slice a n c] L x fun v L' x' =>
   v=.tuple #[.int .i64 (if wrongF l≠0 then 0 else ((cntF 0 1 (l.map Int.toNat)).getD 0:Nat)),.int .i64 (if wrongF l≠0 then wrongF l else if (cntF 0 1 (l.map Int.toNat)).isSome=true then 0 else 20)]∧L'=L∧x'=x:=by
 have hn:n=l.length:=by have:=hr.1;simpa using this
 subst hn
 have hri:∀ i (h:i<l.length),∃ b o,a=some ⟨b,o,none⟩∧Rd L b (o+i) (.int .i64 l[i]):=fun i h=>by
  obtain ⟨b,o,e,hrd⟩:=hr.rds (by omega)
  exact ⟨b,o,e,hrd i _ (by rw [List.getElem?_map,List.getElem?_eq_getElem h];rfl)⟩
 by_cases hneg:∃ k∈l,k<0
 ·have hw:wrongF l=2:=by unfold wrongF;rw [if_pos hneg]
  have h0:0<l.length:=by obtain ⟨k,hk,_⟩:=hneg;exact List.length_pos_of_mem hk
  refine tr_of_body Try.func26 rfl Try.ntmps26 (by simp) fun um Q _ hQ=>?_
  simp only [argE,Nat.zero_add,Nat.reduceAdd]
  repeat (first | refine wgtrT ?_ | refine we_seq ?_ | (refine wR ?_;try simp only [oS]) | refine wo_nil ?_ | refine wM ?_ | refine wA ?_ | refine wE ?_)
  refine wo_call (.cons rfl .nil) rfl (min_tr hr h0 hb) ?_
  rintro v' L' x' ⟨⟨m,rfl,hm⟩,rfl,rfl⟩
  have hm0:m<0:=hm.2 hneg
  repeat (first | refine wlssT ?_ | refine we_seq ?_ | (refine wR ?_;try simp only [oS]) | refine wo_nil ?_ | refine wA ?_ | refine wK ?_ | refine wT ?_ | refine we_ret ?_)
  (first | refine or2 Try.func26 Try.results26 hQ rfl rfl ?_ | refine on2 Try.func26 Try.results26 hQ rfl rfl ?_)
  rw [hw]
  exact ⟨rfl,rfl,rfl⟩
 have hpos:∀ k∈l,0≤k:=fun k hk=>by
  by_cases h:0≤k
  ·exact h
  ·exact absurd ⟨k,hk,by omega⟩ hneg
 refine tr_of_body Try.func26 rfl Try.ntmps26 (by simp) fun um Q _ hQ=>?_
 simp only [argE,Nat.zero_add,Nat.reduceAdd]
 repeat (first | refine we_seq ?_ | (refine wR ?_;try simp only [oS]) | refine wo_nil ?_ | refine wM ?_ | refine wA ?_ | (apply wo_po;apply mo_bin;exact rfl;exact rfl;exact bin_gtr;exact gY) | refine wE ?_)
 have hnw:wrongF l=if 16<l.length then 4 else if overF 0 l=true then 4 else 0:=by unfold wrongF;rw [if_neg hneg]
 let MI:PB.Inv Unit B.X:=⟨fun _=>[(0,.slice a l.length c),(2,.int .i64 0),(3,.int .i64 0),(4,.int .i64 0),(5,.int .i64 1),(18,.bool false)],fun _=>L,fun _=>x,fun _=>True⟩
 refine wo_join MI ?_ ?_
 ·by_cases h0:0<l.length
  ·rw [show decide ((0:Int)<((l.length:Nat):Int))=true from decide_eq_true (by omega)]
   repeat (first | refine wM ?_)
   refine wo_call (.cons rfl .nil) rfl (min_tr hr h0 hb) ?_
   rintro v' L' x' ⟨⟨m,rfl,hm⟩,rfl,rfl⟩
   have hm0:¬ m<0:=fun h=>hneg (hm.1 h)
   repeat (first | refine wlssF ?_ | refine wo_nil ?_ | refine wK ?_)
   refine at_mid (I:=MI) () trivial ?_ .refl rfl
   exact ⟨rfl,rfl,rfl,rfl,rfl,rfl,trivial⟩
  ·rw [show decide ((0:Int)<((l.length:Nat):Int))=false from decide_eq_false (by omega)]
   repeat (first | refine wo_nil ?_ | (apply wo_no;exact rfl) | refine wJ ?_)
   refine at_mid (I:=MI) () trivial ?_ .refl rfl
   exact ⟨rfl,rfl,rfl,rfl,rfl,rfl,trivial⟩
 rintro ⟨⟩ _
 simp only [MI]
 by_cases h16:16<l.length
 ·repeat (first | refine wgtrT ?_ | refine we_seq ?_ | (refine wR ?_;try simp only [oS]) | refine wo_nil ?_ | refine wM ?_ | refine wA ?_ | refine wE ?_ | refine wT ?_ | refine wF ?_ | refine we_ret ?_ | refine we_skip ?_)
  (first | refine or2 Try.func26 Try.results26 hQ rfl rfl ?_ | refine on2 Try.func26 Try.results26 hQ rfl rfl ?_)
  rw [hnw,if_pos h16]
  exact ⟨rfl,rfl,rfl⟩
 rw [if_neg h16] at hnw
 repeat (first | refine wgtrF ?_ | refine we_seq ?_ | (refine wR ?_;try simp only [oS]) | refine wo_nil ?_ | refine wM ?_ | refine wE ?_ | refine wF ?_ | refine we_skip ?_ | refine we_block ?_)
 refine we_loopN (sumInv (.slice a l.length c) l L x) (fun i=>l.length-i.1) (0,0) ⟨Nat.zero_le _,Int.le_refl _,by show (0:Int)≤16384;omega,rfl⟩ ⟨rfl,rfl,rfl,rfl,rfl,rfl,trivial⟩ .refl rfl ?_
 rintro ⟨i,s⟩ ⟨hi,hs0,hs1,hov⟩
 simp only at hi hs0 hs1 hov
 simp only [sumInv]
 by_cases hlt:i<l.length
 ·obtain ⟨b,o,rfl,hrd⟩:=hri i hlt
  have hdr:l.drop i=l[i]::l.drop (i+1):=List.drop_eq_getElem_cons hlt
  have hli:=hpos l[i] (List.getElem_mem hlt)
  rw [hdr] at hov
  simp only [overF] at hov
  by_cases hbig:16384-s<l[i]
  ·repeat (first | (apply wo_po;apply mo_index1;exact rfl;exact rfl;omega;exact gY) | (apply wo_po;apply mo_load;exact rfl;exact hrd;exact trivial) | refine wlssT ?_ | refine wgtrT ?_ | refine we_seq ?_ | (refine wR ?_;try simp only [oS]) | refine wo_nil ?_ | refine wM ?_ | refine wA ?_ | refine wsub ?_ | refine wT ?_ | refine we_ret ?_ | refine we_skip ?_ | refine we_block ?_)
   (first | refine or2 Try.func26 Try.results26 hQ rfl rfl ?_ | refine on2 Try.func26 Try.results26 hQ rfl rfl ?_)
   have ho:overF 0 l=true:=by rw [← hov];simp [hbig]
   rw [ho] at hnw
   rw [show wrongF l=4 from hnw]
   exact ⟨rfl,rfl,rfl⟩
  ·repeat (first | (apply wo_po;apply mo_index1;exact rfl;exact rfl;omega;exact gY) | (apply wo_po;apply mo_load;exact rfl;exact hrd;exact trivial) | refine wlssT ?_ | refine wgtrF ?_ | refine we_seq ?_ | (refine wR ?_;try simp only [oS]) | refine wo_nil ?_ | refine wM ?_ | refine wA ?_ | refine wadd ?_ | refine wsub ?_ | refine wT ?_ | refine wF ?_ | refine we_skip ?_ | refine we_block ?_)
   refine at_round (I:=sumInv (.slice (some ⟨b,o,none⟩) l.length c) l L x) (R:=fun j=>l.length-j.1<l.length-i) (i+1,s+l[i]) (by show l.length-(i+1)<l.length-i;omega) ⟨by show i+1≤l.length;omega,by show 0≤s+l[i];omega,by show s+l[i]≤16384;omega,by rw [← hov];simp [hbig]⟩ ⟨rfl,rfl,rfl,rfl,rfl,rfl,trivial⟩ .refl rfl
 obtain rfl:i=l.length:=by omega
 rw [List.drop_length] at hov
 have hov0:overF 0 l=false:=hov.symm
 rw [hov0,if_neg (by decide)] at hnw
 have hsum:=overF_sum l 0 hpos (by omega) hov0
 rw [hnw] at hQ
 simp only [ne_eq,not_true_eq_false,if_false] at hQ
 repeat (first | refine wlssF ?_ | refine we_seq ?_ | (refine wR ?_;try simp only [oS]) | refine wo_nil ?_ | refine wM ?_ | refine wA ?_ | refine wE ?_ | refine wF ?_ | refine we_block ?_ | refine we_exit ?_)
 refine we_loopN (cntInvP (.slice a l.length c) l L x) (fun i=>l.length-i.1) (0,0,1) ⟨Nat.zero_le _,by simpa using hsum,by show 1≤16384;omega,rfl⟩ ⟨rfl,rfl,rfl,rfl,rfl,trivial⟩ .refl rfl ?_
 rintro ⟨i,s2,al⟩ ⟨hi,hs2,hal,hcn⟩
 simp only at hi hs2 hal hcn
 simp only [cntInvP]
 by_cases hlt:i<l.length
 ·obtain ⟨b,o,rfl,hrd⟩:=hri i hlt
  have hdr:l.drop i=l[i]::l.drop (i+1):=List.drop_eq_getElem_cons hlt
  obtain ⟨m,hm⟩:∃ m:Nat,l[i]=m:=⟨l[i].toNat,by have:=hpos l[i] (List.getElem_mem hlt);omega⟩
  have hnn:=sumI_nonneg (l.drop (i+1)) fun n hn=>hpos n (List.mem_of_mem_drop hn)
  rw [hdr,hm] at hcn hs2
  simp only [List.map_cons,Int.toNat_natCast,cntF,sumI,List.foldr_cons] at hcn hs2
  rw [show List.foldr (·+·) 0 (l.drop (i+1))=sumI (l.drop (i+1)) from rfl] at hs2
  rw [hm] at hrd
  repeat (first | (apply wo_po;apply mo_index1;exact rfl;exact rfl;omega;exact gY) | (apply wo_po;apply mo_load;exact rfl;exact hrd;exact trivial) | refine wlssT ?_ | refine we_seq ?_ | (refine wR ?_;try simp only [oS]) | refine wo_nil ?_ | refine wM ?_ | refine wA ?_ | refine wT ?_ | refine we_skip ?_ | refine we_block ?_)
  refine we_loopN (cntInv2 (.slice (some ⟨b,o,none⟩) l.length c) l.length m i s2 al L x) (fun j=>m-j.1) (0,s2,al) ⟨Nat.zero_le _,rfl,hal,rfl⟩ ⟨rfl,rfl,rfl,rfl,rfl,rfl,rfl,trivial⟩ .refl rfl ?_
  rintro ⟨k,s3,a3⟩ ⟨hk,hs3,ha3,hin⟩
  simp only at hk hs3 ha3 hin
  simp only [cntInv2]
  by_cases hkm:k<m
  ·have hprod:a3*(s3+1)≤16384*16384:=Nat.mul_le_mul ha3 (by omega)
   have hdiv:a3*(s3+1)/(k+1)≤16384*16384:=Nat.le_trans (Nat.div_le_self _ _) hprod
   have w1:IntKind.i64.wrap ((a3:Int)*((s3:Int)+1))=((a3*(s3+1):Nat):Int):=by
    rw [show ((a3:Int)*((s3:Int)+1))=((a3*(s3+1):Nat):Int) by simp]
    exact wrap_i64 (by omega) (by omega)
   obtain ⟨q,hq⟩:∃ q,a3*(s3+1)/(k+1)=q:=⟨_,rfl⟩
   rw [hq] at hdiv
   have w2:IntKind.i64.wrap (((a3*(s3+1):Nat):Int).tdiv ((k:Int)+1))=(q:Int):=by
    rw [show ((a3*(s3+1):Nat):Int).tdiv ((k:Int)+1)=(q:Int) by rw [show ((k:Int)+1)=((k+1:Nat):Int) by simp,← Int.ofNat_tdiv,hq]]
    exact wrap_i64 (by omega) (by omega)
   have hstep:m-k=(m-(k+1))+1:=by omega
   rw [hstep] at hin
   simp only [cntIn] at hin
   rw [hq] at hin
   repeat (first | (apply wo_po;apply mo_bin;exact rfl;exact rfl;apply bin_mul;exact w1;exact trivial) | (apply wo_po;apply mo_bin;exact rfl;exact rfl;apply bin_quo;omega;exact w2;exact trivial) | refine wlssT ?_ | refine we_seq ?_ | (refine wR ?_;try simp only [oS]) | refine wo_nil ?_ | refine wM ?_ | refine wA ?_ | (apply wo_po;apply mo_bin;exact rfl;exact rfl;exact bin_gtr;exact gY) | refine wadd ?_ | refine wT ?_ | refine we_skip ?_ | refine we_block ?_)
   by_cases hbig:16384<q
   ·rw [if_pos hbig] at hin
    rw [← hin] at hcn
    repeat (first | refine we_seq ?_ | (refine wR ?_;try simp only [oS]) | refine wo_nil ?_ | refine wA ?_ | refine wT ?_ | refine we_ret ?_)
    (first | refine or2 Try.func26 Try.results26 hQ rfl rfl ?_ | refine on2 Try.func26 Try.results26 hQ rfl rfl ?_)
    rw [← hcn]
    exact ⟨rfl,rfl,rfl⟩
   ·rw [if_neg hbig] at hin
    repeat (first | (refine wR ?_;try simp only [oS]) | refine wo_nil ?_ | refine wM ?_ | refine wadd ?_ | refine wF ?_ | refine we_skip ?_)
    refine at_round (I:=cntInv2 (.slice (some ⟨b,o,none⟩) l.length c) l.length m i s2 al L x) (R:=fun j=>m-j.1<m-k) (k+1,s3+1,q) (by show m-(k+1)<m-k;omega) ⟨by show k+1≤m;omega,by show s3+1=s2+(k+1);omega,by show q≤16384;omega,hin⟩ ⟨by simp only [Int.natCast_add,Int.natCast_one];exact rfl,rfl,rfl,rfl,rfl,rfl,rfl,trivial⟩ .refl rfl
  ·obtain rfl:k=m:=by omega
   rw [Nat.sub_self] at hin
   simp only [cntIn] at hin
   rw [← hin] at hcn
   repeat (first | refine wlssF ?_ | refine we_seq ?_ | (refine wR ?_;try simp only [oS]) | refine wo_nil ?_ | refine wM ?_ | refine wadd ?_ | refine wF ?_ | refine we_exit ?_)
   refine at_round (I:=cntInvP (.slice (some ⟨b,o,none⟩) l.length c) l L x) (R:=fun j=>l.length-j.1<l.length-i) (i+1,s3,a3) (by show l.length-(i+1)<l.length-i;omega) ⟨by show i+1≤l.length;omega,by show (s3:Int)+sumI (l.drop (i+1))≤16384;omega,ha3,hcn⟩ ⟨rfl,rfl,rfl,rfl,rfl,trivial⟩ .refl rfl
 ·obtain rfl:i=l.length:=by omega
  rw [List.drop_length] at hcn
  simp only [List.map_nil,cntF] at hcn
  repeat (first | refine wlssF ?_ | refine we_seq ?_ | (refine wR ?_;try simp only [oS]) | refine wo_nil ?_ | refine wM ?_ | refine wA ?_ | refine wF ?_ | refine we_ret ?_ | refine we_exit ?_)
  (first | refine or2 Try.func26 Try.results26 hQ rfl rfl ?_ | refine on2 Try.func26 Try.results26 hQ rfl rfl ?_)
  rw [← hcn]
  exact ⟨rfl,rfl,rfl⟩
end
end
section
def cat (s:ByteArray) (c:UInt8):ByteArray:=s++ByteArray.mk #[c]
def awPlan:Nat→Option ((Int × Int) × (ByteArray→ByteArray × Nat))
 | 0=>some ((1,1),fun s=>(s++⟨#[97]⟩,1))
 | 1=>some ((3,2),fun s=>(s++⟨#[98]⟩,2))
 | 3=>some ((5,3),fun s=>(s++⟨#[99]⟩,4))
 | _=>none
def awG (bb:Nat):Game where
 σ:=ByteArray
 θ:=Nat
 U:=fun s=>arr bb 0 [.string s]
 plan:=awPlan
 ok:=fun s=>s.size≤1000000
 Pv:=fun _ _=>True
 Fin:=fun _ _=>True
def awT (bb:Nat):List (Thr (awG bb)):=[⟨.func (.func 44) #[] #[.pointer (some ⟨bb,0,none⟩)],fun s=>(s,(0:Nat)),fun _=>True⟩,⟨.func (.func 45) #[] #[.pointer (some ⟨bb,0,none⟩)],fun s=>(s,(3:Nat)),fun _=>True⟩]
theorem star_true {L:List HProp} {h:Hp} (st:Star L h):Star ((fun _=>True)::L) h :=
 star_shut (M:=[]) st
theorem aw1 {bb:Nat}:ThrOk (awG bb) (fun s=>(s,(0:Nat))) (.func (.func 44) #[] #[.pointer (some ⟨bb,0,none⟩)]) fun _=>True where
 run:=by
  refine ⟨_,_,_,rfl,inferInstance,fun sb says turn fin wg s n F hok=>?_⟩
  show Tr Try.prog tH _ [gateV sb,.pointer (some ⟨bb,0,none⟩)] _ (tx (awG bb) says turn fin wg (.busy s (0:Nat) n)) _
  refine tr_of_body Try.func44 rfl Try.ntmps44 (by simp) fun um Q _ hQ=>?_
  simp only [argE,Nat.zero_add,Nat.reduceAdd]
  repeat (first | (apply wo_po;apply mo_build (pv:=[(0,_),(1,_)]);exact rfl;exact .cons rfl (.cons rfl .nil);exact rfl;exact trivial) | refine we_seq ?_ | (refine wR ?_;try simp only [oS]) | refine wM ?_)
  refine wo_invoke (args:=[_]) rfl (.cons rfl .nil) trivial (seat_tr (g:=awG bb) (mk:=(1,1)) (f:=fun s:ByteArray=>(s++ByteArray.mk #[97],(1:Nat))) (q:=(0:Nat)) rfl .here .here (fun _ _=>trivial)) ?_
  rintro v' L' x' ⟨m1,s1,hm1,hs1,rfl,rfl,rfl⟩
  replace hs1:s1.size≤1000000:=hs1
  refine wo_ent (arr bb 0 [.string s1]::seatR sb says turn fin::(fun _=>True)::F) .refl ?_
  repeat (first | (apply wo_po;apply mo_bin;exact rfl;exact rfl;exact bin_cat (by have:(ByteArray.mk #[97]).size=1:=rfl;omega);exact trivial) | refine wS ?_ | refine we_seq ?_ | (refine wR ?_;try simp only [oS]) | refine wo_nil ?_ | refine wM ?_ | refine wL ?_)
  refine wo_ent ((awG bb).U (cat s1 97)::seatR sb says turn fin::(fun _=>True)::F) .refl ?_
  repeat (first | (apply wo_po;apply mo_build (pv:=[(0,_),(1,_)]);exact rfl;exact .cons rfl (.cons rfl .nil);exact rfl;exact trivial))
  refine wo_invoke (args:=[_]) rfl (.cons rfl .nil) trivial (seat_tr (g:=awG bb) (mk:=(3,2)) (f:=fun s:ByteArray=>(s++ByteArray.mk #[98],(2:Nat))) (q:=(1:Nat)) rfl .here .here (fun _ _=>trivial)) ?_
  rintro v' L' x' ⟨m2,s2,hm2,hs2,rfl,rfl,rfl⟩
  replace hs2:s2.size≤1000000:=hs2
  refine wo_ent (arr bb 0 [.string s2]::seatR sb says turn fin::(fun _=>True)::F) .refl ?_
  repeat (first | (apply wo_po;apply mo_bin;exact rfl;exact rfl;exact bin_cat (by have:(ByteArray.mk #[98]).size=1:=rfl;omega);exact trivial) | refine wS ?_ | (refine wR ?_;try simp only [oS]) | refine wo_nil ?_ | refine wL ?_)
  (first | refine or0 Try.func44 Try.results44 hQ ?_ | refine on0 Try.func44 Try.results44 hQ ?_)
  exact ⟨cat s2 98,(2:Nat),m2,rfl,rfl,fun h st=>st⟩
theorem aw2 {bb:Nat}:ThrOk (awG bb) (fun s=>(s,(3:Nat))) (.func (.func 45) #[] #[.pointer (some ⟨bb,0,none⟩)]) fun _=>True where
 run:=by
  refine ⟨_,_,_,rfl,inferInstance,fun sb says turn fin wg s n F hok=>?_⟩
  show Tr Try.prog tH _ [gateV sb,.pointer (some ⟨bb,0,none⟩)] _ (tx (awG bb) says turn fin wg (.busy s (3:Nat) n)) _
  refine tr_of_body Try.func45 rfl Try.ntmps45 (by simp) fun um Q _ hQ=>?_
  simp only [argE,Nat.zero_add,Nat.reduceAdd]
  repeat (first | (apply wo_po;apply mo_build (pv:=[(0,_),(1,_)]);exact rfl;exact .cons rfl (.cons rfl .nil);exact rfl;exact trivial) | refine we_seq ?_ | (refine wR ?_;try simp only [oS]) | refine wM ?_)
  refine wo_invoke (args:=[_]) rfl (.cons rfl .nil) trivial (seat_tr (g:=awG bb) (mk:=(5,3)) (f:=fun s:ByteArray=>(s++ByteArray.mk #[99],(4:Nat))) (q:=(3:Nat)) rfl .here .here (fun _ _=>trivial)) ?_
  rintro v' L' x' ⟨m1,s1,hm1,hs1,rfl,rfl,rfl⟩
  replace hs1:s1.size≤1000000:=hs1
  refine wo_ent (arr bb 0 [.string s1]::seatR sb says turn fin::(fun _=>True)::F) .refl ?_
  repeat (first | (apply wo_po;apply mo_bin;exact rfl;exact rfl;exact bin_cat (by have:(ByteArray.mk #[99]).size=1:=rfl;omega);exact trivial) | refine wS ?_ | (refine wR ?_;try simp only [oS]) | refine wo_nil ?_ | refine wL ?_)
  (first | refine or0 Try.func45 Try.results45 hQ ?_ | refine on0 Try.func45 Try.results45 hQ ?_)
  exact ⟨cat s1 99,(4:Nat),m1,rfl,rfl,fun h st=>st⟩
theorem aw_plays {bb:Nat}:playF (awT bb) (ByteArray.mk #[]) [1,7,0]=(⟨ByteArray.mk #[99,97,98],[(2:Nat),(4:Nat)],[(1,(5,3)),(0,(1,1)),(0,(3,2))]⟩:PS (awG bb)):=by kernel_rfl
theorem awPlan_size:∀ (q:Nat) (m:Int × Int) (f:ByteArray→ByteArray × Nat),awPlan q=some (m,f)→∀ s:ByteArray,(f s).1.size=s.size+1:=by
 intro q m f hp s
 match q,hp with
 | 0,hp=>cases hp;exact ByteArray.size_append
 | 1,hp=>cases hp;exact ByteArray.size_append
 | 3,hp=>cases hp;exact ByteArray.size_append
def awI (bb:Nat) (p:PS (awG bb)):Prop:=ByteArray.size p.s≤p.tr.length
theorem awI_step {bb:Nat} (p:PS (awG bb)) (k:Int) (h:awI bb p):awI bb (takeF p k).1:=by
 rcases takeF_cases p k with e | ⟨n,q,m,f,_,_,hp,_,e⟩
 ·rw [e];exact h
 ·rw [e]
  unfold awI at h ⊢
  simp only [List.length_append,List.length_singleton]
  have:=awPlan_size q m f hp p.s
  omega
theorem eqT {x y:Operand} {a0 b0 a1 b1 a2 b2:Int}:Eql Try.prog 49 x y (.agg #[.int .i64 a0,.int .u8 a1,.int .i64 a2]) (.agg #[.int .i64 b0,.int .u8 b1,.int .i64 b2]) (decide (a0=b0∧a1=b1∧a2=b2)) :=
 haveI p0:Und Try.prog 49 _:=⟨Try.underlying49⟩
 haveI p1:Und Try.prog 47 _:=⟨Try.underlying47⟩
 eql_turned (t1:=47) (p:=p0) (p1:=p1) (by kernel_rfl) (by kernel_rfl) (by kernel_rfl) (by decide) (by decide) (by decide) (by decide) rfl rfl rfl rfl rfl (by kernel_rfl) (by kernel_rfl) (by kernel_rfl)
theorem awakes_tr {L:List HProp}:Tr Try.prog mT 13 [] L .idle fun v L' x'=>v=.bool true∧L'=L∧x'=.idle:=by
 refine Tr.post (R:=fun v L' x'=>v=.bool true∧x'=MX.idle∧∀ h,Star L' h→Star L h) ?_
  (by rintro v L' x' ⟨rfl,rfl,h2⟩;exact ⟨_,⟨rfl,rfl,rfl⟩,h2⟩)
 refine tr_of_body Try.func13 rfl Try.ntmps13 (by simp) fun um Q _ hQ=>?_
 simp only [argE,Nat.zero_add,Nat.reduceAdd]
 repeat (first | (apply wo_mo;apply mo_alloc;exact trivial) | refine we_seq ?_ | (refine wR ?_;try simp only [oS]) | refine wo_nil ?_ | refine wA ?_)
 rintro v' L' ⟨bb,rfl,rfl⟩
 repeat (first | refine wS ?_ | (apply wo_po;apply mo_makeFunc (first:=[]) (cap:=[_]) (vf:=[]);exact .nil;exact .cons rfl .nil;exact trivial) | (apply wo_mo;apply mo_buildSlice (sz:=1) (vs:=[.int .i64 1,.int .i64 7,.int .i64 0]);exact rfl;exact .cons rfl (.cons rfl (.cons rfl .nil));exact rfl;(intro v hv;simp at hv;rcases hv with rfl | rfl | rfl <;> rfl);omega;exact trivial) | refine we_seq ?_ | (refine wR ?_;try simp only [oS]) | refine wo_nil ?_ | refine wA ?_)
 rintro v' L' ⟨ob,rfl,rfl⟩
 repeat (first | (apply wo_mo;apply mo_buildSlice (sz:=1) (vs:=[_,_]);exact rfl;exact .cons rfl (.cons rfl .nil);exact rfl;(intro v hv;simp at hv;rcases hv with rfl | rfl <;> rfl);omega;exact trivial) | refine wM ?_)
 rintro v' L' ⟨tb,rfl,rfl⟩
 refine wo_call (.cons rfl (.cons rfl .nil)) trivial (Tr.ent (L':=(awG bb).U (ByteArray.mk #[])::arr tb 0 [.func (.func 44) #[] #[.pointer (some ⟨bb,0,none⟩)],.func (.func 45) #[] #[.pointer (some ⟨bb,0,none⟩)]]::arr ob 0 [.int .i64 1,.int .i64 7,.int .i64 0]::L) (.take (.there (.there .here)) (.take .here (.take .here .refl))) (tr_star ((awG bb).U (ByteArray.mk #[])::all ((awT bb).map Thr.M)::arr tb 0 [.func (.func 44) #[] #[.pointer (some ⟨bb,0,none⟩)],.func (.func 45) #[] #[.pointer (some ⟨bb,0,none⟩)]]::arr ob 0 [.int .i64 1,.int .i64 7,.int .i64 0]::L)
  (fun h st=>star_map st (fun _ z=>z) fun _ s1=>star_shut (M:=(awT bb).map Thr.M) (star_true (star_true s1)))
  (plays_tr (order:=[1,7,0]) (ts:=awT bb) (s0:=ByteArray.mk #[]) (awI bb) (fun j hj=>by match j,hj with | 0,_=>exact Nat.zero_le _ | 1,_=>exact Nat.zero_le _) (Nat.le_refl 0) awI_step (fun p h1 h2=>by unfold awI at h1;show ByteArray.size p.s≤1000000;omega) (fun _ _ _=>trivial)
   (by intro t ht;simp [awT] at ht;rcases ht with rfl | rfl;exact aw1;exact aw2) (Nat.zero_lt_succ _) (by show 2≤16;omega) (by show 3≤16384;omega)
   ⟨rfl,.inr ⟨_,_,rfl,Rds.all .here⟩⟩ ⟨rfl,.inr ⟨_,_,rfl,Rds.all (.there .here)⟩⟩))) ?_
 rw [aw_plays]
 rintro v' L' x' ⟨tv,cv,rfl,rfl,rfl⟩
 rw [show cutN (awG bb) [(2:Nat),(4:Nat)] (awT bb).length=[] from rfl]
 refine wo_pure (of_has .here (vec_shape (by omega))) ?_
 rintro ⟨a1,n1,c1,rfl,hn1,_,hz1,hy1⟩
 obtain rfl:n1=3:=by rw [trCP_len] at hn1;simp at hn1;omega
 refine wo_pure (of_has (.there .here) (vec_shape (by omega))) ?_
 rintro ⟨a2,n2,c2,rfl,hn2,_⟩
 obtain rfl:n2=0:=by simp [cutC] at hn2;omega
 cases a1 with
 | none=>have:=hz1 rfl;omega
 | some ad =>
 obtain ⟨tb1,to1,sp⟩:=ad
 have:=hy1 _ rfl
 simp only [Addr.mk.injEq,true_and] at this
 subst this
 repeat (first | (apply wo_mo;apply mo_alloc;exact trivial) | refine wM ?_ | (apply wo_po;apply mo_extract;exact rfl;exact rfl;exact gY))
 rintro v' L' ⟨pb,rfl,rfl⟩
 repeat (first | (apply wo_pm;apply mo_storeA (c:=0) (k:=0) (a:=0) (vs:=[.slice none 0 0,.slice none 0 0]);exact rfl;exact rfl;exact rfl;(intro w hw;simp [Value.cells] at hw;rcases hw with rfl | rfl <;> rfl);exact rfl;exact Nat.le_refl 2;exact .here;exact trivial) | (apply wo_mo;apply mo_buildSlice (sz:=1) (vs:=[.int .i64 2,.int .i64 1]);exact rfl;exact .cons rfl (.cons rfl .nil);exact rfl;(intro v hv;simp at hv;rcases hv with rfl | rfl <;> rfl);omega;exact trivial) | refine we_seq ?_ | (refine wR ?_;try simp only [oS]) | refine wo_nil ?_ | refine wA ?_)
 rintro v' L' ⟨qb,rfl,rfl⟩
 skip
 refine wo_call (.cons rfl .nil) trivial (count_tr (l:=[2,1]) ⟨rfl,.inr ⟨_,_,rfl,Rds.all .here⟩⟩ (by omega)) ?_
 rintro v' L' x' ⟨rfl,rfl,rfl⟩
 rw [show (if wrongF [2,1]≠0 then (0:Int) else ((cntF 0 1 ([2,1].map Int.toNat)).getD 0:Nat))=3 by kernel_rfl,show (if wrongF [2,1]≠0 then wrongF [2,1] else if (cntF 0 1 ([2,1].map Int.toNat)).isSome=true then 0 else 20)=0 by kernel_rfl]
 refine wo_ent (arr qb 0 [.int .i64 2,.int .i64 1]::arr pb 0 [.slice (some ⟨tb1,to1,none⟩) 3 c1,.slice a2 0 c2]::vec 3 (.slice (some ⟨tb1,to1,none⟩) 3 c1) (trCP [(1,(5,3)),(0,(1,1)),(0,(3,2))])::arr bb 0 [.string (ByteArray.mk #[99,97,98])]::L) (.take .here (.take .here (.take .here (.take (.there .here) (.drop (.drop (.drop (.drop .refl)))))))) ?_
 have hv:Rds (arr qb 0 [.int .i64 2,.int .i64 1]::arr pb 0 [.slice (some ⟨tb1,to1,none⟩) 3 c1,.slice a2 0 c2]::vec 3 (.slice (some ⟨tb1,to1,none⟩) 3 c1) (trCP [(1,(5,3)),(0,(1,1)),(0,(3,2))])::arr bb 0 [.string (ByteArray.mk #[99,97,98])]::L) tb1 (to1+0*3) [.int .i64 1,.int .u8 5,.int .i64 3]:=by
  intro i v hi
  match i,hi with
  | 0,hi=>cases hi;exact rd_vec (i:=0) (.there (.there .here)) rfl
  | 1,hi=>cases hi;exact rd_vec (i:=1) (.there (.there .here)) rfl
  | 2,hi=>cases hi;exact rd_vec (i:=2) (.there (.there .here)) rfl
 repeat (first | (apply wo_po;apply mo_bin;exact rfl;exact rfl;exact bin_streq (r:=true) (by kernel_rfl);exact rfl) | (apply wo_po;apply mo_index (sz:=3) (j:=0);exact rfl;exact rfl;omega;exact rfl) | (apply wo_po;apply mo_loadA (vs:=[.int .i64 1,.int .u8 5,.int .i64 3]);exact rfl;exact rfl;exact hv;exact rfl) | (apply wo_po;apply mo_build (pv:=[(0,_),(1,_)]);exact rfl;exact .cons rfl (.cons rfl .nil);exact rfl;exact rfl) | (apply wo_po;apply mo_bin;exact rfl;exact rfl;apply bin_eq;exact eqT;exact rfl) | refine weqlT ?_ | refine we_seq ?_ | (refine wR ?_;try simp only [oS]) | refine wo_nil ?_ | refine wM ?_ | refine wA ?_ | refine wK ?_ | refine wD ?_ | (apply wo_po;apply mo_extract;exact rfl;exact rfl;exact gY) | refine wL ?_ | refine wE ?_ | refine we_ret ?_)
 (first | refine or1 Try.func13 Try.results13 hQ rfl ?_ | refine on1 Try.func13 Try.results13 hQ rfl ?_)
 exact ⟨rfl,rfl,fun h st=>Ent.star (.drop (.drop (.drop (.drop .refl)))) st⟩
end
section
def insC (l:List Int):List Value:=ints l++[.int .i64 77,.int .i64 78,.int .i64 79]
section
variable {B:Hand} [Lets B] {L F:List HProp} {x:B.X} {a:Option Addr} {n c:Nat} {l:List Int}
theorem ints_one:∀ w∈ints l,one w=true:=by
 intro w hw
 obtain ⟨k,_,rfl⟩:=List.mem_map.1 hw
 rfl
theorem ints_tr (hr:RdsO L a n (ints l)) (hb:n≤17592186043904) :
  Tr Try.prog B 16 [.slice a n c] L x fun v L' x'=>∃ b o cc,v=.slice (some ⟨b,o,none⟩) n cc∧n+3≤cc∧L'=vec 1 (.slice (some ⟨b,o,none⟩) (n+3) cc) (insC l)::L∧x'=x:=by
 have hn:n=l.length:=by have:=hr.1;simpa using this
 subst hn
 refine Tr.post (R:=fun v L' x'=>∃ b o cc,v=.slice (some ⟨b,o,none⟩) l.length cc∧l.length+3≤cc∧x'=x∧∀ h,Star L' h→Star (vec 1 (.slice (some ⟨b,o,none⟩) (l.length+3) cc) (insC l)::L) h) ?_
  (by rintro v L' x' ⟨b,o,cc,rfl,h1,rfl,h2⟩;exact ⟨_,⟨b,o,cc,rfl,h1,rfl,rfl⟩,h2⟩)
 refine tr_star (vec 1 (.slice none 0 0) []::L) (fun h st=>vec_nil st) ?_
 have hrd:l.length=0∨∃ b o,a=some ⟨b,o,none⟩∧Rds (vec 1 (.slice none 0 0) []::L) b o (ints l):=hr.there.2
 refine tr_of_body Try.func16 rfl Try.ntmps16 (by simp) fun um Q _ hQ=>?_
 simp only [argE,Nat.zero_add,Nat.reduceAdd]
 repeat (first | (apply wo_mo;apply mo_append (sz:=1) (new:=ints l);exact rfl;exact rfl;exact rfl;exact rfl;exact .here;(simp [ints]);exact hrd;exact ints_one;(simp only [sliceLen];omega);exact trivial) | refine we_seq ?_ | (refine wR ?_;try simp only [oS]) | refine wo_nil ?_ | refine wM ?_ | refine wA ?_)
 rintro v' L' rfl
 refine wo_pure (of_has .here (vec_shape (by omega))) ?_
 rintro ⟨ra,rn,rc,rfl,hrn,_⟩
 have hrn:rn=l.length:=by simp [ints] at hrn;omega
 subst hrn
 repeat (first | (apply wo_mo;apply mo_buildSlice (sz:=1) (vs:=[.int .i64 77,.int .i64 78,.int .i64 79]);exact rfl;exact .cons rfl (.cons rfl (.cons rfl .nil));exact rfl;(intro v hv;simp at hv;rcases hv with rfl | rfl | rfl <;> rfl);omega;exact trivial) | refine we_seq ?_ | (refine wR ?_;try simp only [oS]) | refine wo_nil ?_ | refine wM ?_ | refine wA ?_)
 rintro v' L' ⟨nb,rfl,rfl⟩
 repeat (first | (apply wo_mo;apply mo_append (sz:=1) (new:=[.int .i64 77,.int .i64 78,.int .i64 79]);exact rfl;exact rfl;exact rfl;exact rfl;exact (.there .here);exact rfl;exact .inr ⟨_,_,rfl,Rds.all .here⟩;(intro v hv;simp at hv;rcases hv with rfl | rfl | rfl <;> rfl);(simp only [sliceLen];omega);exact trivial))
 rintro v' L' rfl
 refine wo_pure (of_has .here (vec_shape (by omega))) ?_
 rintro ⟨ua,un,uc,rfl,hun,huc,huz,huy⟩
 have hun:un=l.length+3:=by simp [ints] at hun;omega
 subst hun
 obtain ⟨ub,uo,rfl⟩:∃ b o,ua=some ⟨b,o,none⟩:=by
  cases ua with
  | none=>have:=huz rfl;omega
  | some y=>exact ⟨y.block,y.off,by rw [huy y rfl]⟩
 repeat (first | (apply wo_po;apply mo_sliceTo;exact rfl;exact rfl;exact rfl;omega;omega;exact trivial) | refine we_seq ?_ | (refine wR ?_;try simp only [oS]) | refine wo_nil ?_ | refine wM ?_ | refine wA ?_ | refine wE ?_ | refine we_ret ?_)
 (first | refine or1 Try.func16 Try.results16 hQ rfl ?_ | refine on1 Try.func16 Try.results16 hQ rfl ?_)
 exact ⟨ub,uo,uc,rfl,huc,rfl,fun h st=>Ent.star (.take .here (.drop .refl)) st⟩
end
end
end Go.Proofs.Ytabbkjciifnehaa
namespace Go.Proofs.Ytabbkjciifnehaa
open Go Go.PB
attribute [local irreducible] Mo Bin Eql Tr Wo Ap Wle
attribute [local instance] Pass.of_no
section
theorem insC_rds {L F:List HProp} {b o cc:Nat} {l:List Int} (hh:Has L (vec 1 (.slice (some ⟨b,o,none⟩) (l.length+3) cc) (insC l)) F):RdsO L (some ⟨b,o,none⟩) l.length (ints l) :=
 ⟨by simp,.inr ⟨b,o,rfl,fun i v hi=>rd_vec hh (by unfold insC;rw [List.getElem?_append_left (List.getElem?_eq_some_iff.1 hi).1];exact hi)⟩⟩
end
end Go.Proofs.Ytabbkjciifnehaa
namespace Go.Proofs.Ytabbkjciifnehaa
open Go Go.PB
attribute [local irreducible] Mo Bin Eql Tr Wo
section
variable {B:Hand} [Lets B] {L:List HProp} {x:B.X}
theorem tmod_emod {n k:Int} (hk:0<k):(n.tmod k<0→n.tmod k+k=n%k)∧(¬ n.tmod k<0→n.tmod k=n%k):=by
 have h1:=Int.emod_nonneg n (by omega:k≠0)
 have h2:=Int.emod_lt_of_pos n hk
 have h3:n.tmod k=n%k-((if 0≤n∨k ∣ n then 0 else k.natAbs:Nat):Int):=Int.tmod_eq_emod
 have h4:=Int.tmod_lt_of_pos n hk
 split at h3
 ·constructor <;> intro h5 <;> omega
 ·rename_i hn
  have h6:n%k≠0:=fun h=>hn (.inr (Int.dvd_of_emod_eq_zero h))
  constructor <;> intro h5 <;> omega
theorem within_tr {n k:Int} (hn:-9223372036854775808≤n∧n≤9223372036854775807) (hk:0<k∧k≤1000000) :
  Tr Try.prog B 23 [.int .i64 n,.int .i64 k] L x fun v L' x'=>v=.int .i64 (n%k)∧L'=L∧x'=x:=by
 have ht:=tmod_emod (n:=n) hk.1
 have h1:=Int.emod_nonneg n (by omega:k≠0)
 have h2:=Int.emod_lt_of_pos n hk.1
 have hlt:=Int.tmod_lt_of_pos n hk.1
 obtain ⟨m,hm⟩:∃ m,n%k=m:=⟨_,rfl⟩
 obtain ⟨t,hte⟩:∃ t,n.tmod k=t:=⟨_,rfl⟩
 rw [hm] at ht h1 h2
 rw [hte] at ht hlt
 rw [hm]
 by_cases hneg:t<0
 ·have e:=ht.1 hneg
  refine tr_of_body Try.func23 rfl Try.ntmps23 (by simp) fun um Q _ hQ=>?_
  simp only [argE,Nat.zero_add,Nat.reduceAdd]
  repeat (first | (apply wo_po;apply mo_bin;exact rfl;exact rfl;apply bin_rem;omega;exact hte;exact trivial) | refine wlssT ?_ | refine we_seq ?_ | (refine wR ?_;try simp only [oS]) | refine wo_nil ?_ | refine wM ?_ | refine wA ?_ | refine wadd ?_ | refine wT ?_ | refine we_ret ?_)
  (first | refine or1 Try.func23 Try.results23 hQ rfl ?_ | refine on1 Try.func23 Try.results23 hQ rfl ?_)
  exact ⟨by rw [e],rfl,rfl⟩
 ·have e:=ht.2 hneg
  refine tr_of_body Try.func23 rfl Try.ntmps23 (by simp) fun um Q _ hQ=>?_
  simp only [argE,Nat.zero_add,Nat.reduceAdd]
  repeat (first | (apply wo_po;apply mo_bin;exact rfl;exact rfl;apply bin_rem;omega;exact hte;exact trivial) | refine wlssF ?_ | refine we_seq ?_ | (refine wR ?_;try simp only [oS]) | refine wo_nil ?_ | refine wM ?_ | refine wA ?_ | refine wF ?_ | refine we_ret ?_ | refine we_skip ?_)
  (first | refine or1 Try.func23 Try.results23 hQ rfl ?_ | refine on1 Try.func23 Try.results23 hQ rfl ?_)
  exact ⟨by rw [e],rfl,rfl⟩
end
end Go.Proofs.Ytabbkjciifnehaa
namespace Go.Proofs.Ytabbkjciifnehaa
open Go Go.PB
attribute [local irreducible] Mo Bin Eql Tr Wo Ap Wle
section
section
variable {g:Game}
theorem takeF_go {s:g.σ} {qs:List g.θ} {tr:List (Nat × (Int × Int))} {n:Nat} {q:g.θ} {m:Int × Int} {f:g.σ→g.σ × g.θ} (hq:qs[n]?=some q) (hp:g.plan q=some (m,f)) (ht:tr.length≠16384):takeF (⟨s,qs,tr⟩:PS g) ((n:Nat):Int)=(⟨(f s).1,qs.set n (f s).2,tr++[(n,m)]⟩,true):=by
 unfold takeF
 rw [if_neg (by omega)]
 simp only [Int.toNat_natCast,hq,hp,if_neg ht]
end
abbrev LnS:=List (Nat × Int)
abbrev LnQ:=Nat × Nat × List (Int × Nat)
section
variable {x1 x2:Nat} {M1 M2:Nat→HProp}
end
def wanF (tr:List (Nat × (Int × Int))):LnS × (Nat→Nat):=tr.foldl (fun a t=>(a.1++[(t.1,((a.2 t.1:Nat):Int))],fun k=>if k=t.1 then a.2 k+1 else a.2 k)) ([],fun _=>0)
def hdF (n:Nat):LnS:=(List.range n).map fun k=>(k,-1)
structure LnI (rows:List (List (Int × Nat))) (s:LnS) (qs:List LnQ) (tr:List (Nat × (Int × Int))):Prop where
 ln:s=hdF rows.length++(wanF tr).1
 len:s.length=rows.length+tr.length
 sum:sumN (qs.map fun q=>q.2.2.length)+tr.length=sumN (rows.map List.length)
 ql:qs.length=rows.length
 at_:∀ (k:Nat) q,qs[k]?=some q→q.1=k∧q.2.1=(wanF tr).2 k∧∃ row,rows[k]?=some row∧q.2.1≤row.length∧q.2.2=row.drop q.2.1
 th:∀ t∈tr,t.1<rows.length
section
variable {xb:Nat} {M:Nat→HProp}
end
end
end Go.Proofs.Ytabbkjciifnehaa
namespace Go.Proofs.Ytabbkjciifnehaa
open Go Go.PB
attribute [local irreducible] Mo Bin Eql Tr Wo
section
structure Acc (B:Hand) (gv:Value) where
 S:Type
 C:S→HProp
 x:S→B.X
 step:Int→Nat→S→(S→Prop)→Prop
 addr:Nat→Nat × Nat
 load:Nat→S→(Nat→S→Prop)→Prop
 store:Nat→Nat→S→(S→Prop)→Prop
 cas:Nat→Nat→Nat→S→(Bool→S→Prop)→Prop
 add:Nat→Nat→S→(Nat→S→Prop)→Prop
 swap:Nat→Nat→S→(Nat→S→Prop)→Prop
 gate:(gv=.nilIface∧∀ op w s R,step op w s R→R s) ∨
  ∃ t p f,gv=.iface t p∧Met Try.prog t "Step" f∧Ent' Try.prog f∧∀ op w s R L F,step op w s R→Has L (C s) F →
   Tr Try.prog B f [p,.agg #[.int .u8 op,.int .i64 (w:Nat)]] L (x s) fun v L' x'=>∃ s',R s'∧v=.tuple #[]∧L'=C s'::F∧x'=x s'
 load_ok:∀ w s R L F b o,addr w=(b,o)→load w s R→Has L (C s) F→Tr Try.prog B 66 [.pointer (some ⟨b,o,none⟩)] L (x s) fun v L' x'=>∃ n s',n<18446744073709551616∧R n s'∧v=.int .u64 (n:Nat)∧L'=C s'::F∧x'=x s'
 store_ok:∀ w n s R L F b o,addr w=(b,o)→n<18446744073709551616→store w n s R→Has L (C s) F→Tr Try.prog B 81 [.pointer (some ⟨b,o,none⟩),.int .u64 (n:Nat)] L (x s) fun v L' x'=>∃ s',R s'∧v=.tuple #[]∧L'=C s'::F∧x'=x s'
 cas_ok:∀ w m n s R L F b o,addr w=(b,o)→n<18446744073709551616→cas w m n s R→Has L (C s) F→Tr Try.prog B 70 [.pointer (some ⟨b,o,none⟩),.int .u64 (m:Nat),.int .u64 (n:Nat)] L (x s) fun v L' x'=>∃ q s',R q s'∧v=.bool q∧L'=C s'::F∧x'=x s'
 add_ok:∀ w n s R L F b o,addr w=(b,o)→n<18446744073709551616→add w n s R→Has L (C s) F→Tr Try.prog B 79 [.pointer (some ⟨b,o,none⟩),.int .u64 (n:Nat)] L (x s) fun v L' x'=>∃ m s',m<18446744073709551616∧R m s'∧v=.int .u64 (m:Nat)∧L'=C s'::F∧x'=x s'
section
variable {B:Hand} [Lets B] {L F L1:List HProp}
end
end
end Go.Proofs.Ytabbkjciifnehaa
namespace Go.Proofs.Ytabbkjciifnehaa
open Go Go.PB
attribute [local irreducible] Mo Bin Eql Tr Wo Ap
section
variable {B:Hand} [Lets B] {L F:List HProp} {x:B.X} {nb:Nat} {marks:List (Int × Nat)}
def RdM (L:List HProp) (a:Option Addr) (l:List (Int × Nat)):Prop:=∀ i m,l[i]?=some m→∃ b o,a=some ⟨b,o,none⟩∧Rds L b (o+2*i) [.int .u8 m.1,.int .i64 (m.2:Nat)]
end
end Go.Proofs.Ytabbkjciifnehaa
namespace Go.Proofs.Ytabbkjciifnehaa
open Go Go.PB
attribute [local irreducible] Mo Bin Eql Tr Wo Ap Wle
attribute [local instance] Pass.of_no
section
structure LnRo (Mk:HProp) (xbb kb sb xb k:Nat) (a:Option Addr) (c:Nat) (row:List (Int × Nat)):Prop where
 h1:Rd [Mk] xbb 0 (.pointer (some ⟨xb,0,none⟩))
 h2:Rd [Mk] kb 0 (.int .i64 (k:Nat))
 h3:Rd [Mk] sb 0 (.slice a row.length c)
 hr:RdM [Mk] a row
 hk:k≤16
 hl:row.length≤60
section
variable {xbb kb sb xb k:Nat} {M:Nat→HProp} {a:Option Addr} {c:Nat} {row:List (Int × Nat)} {sb0 says turn fin wg:Nat} {F:List HProp}
end
end
end Go.Proofs.Ytabbkjciifnehaa
namespace Go.PB
open Go
section
def Dup (c:HProp):Prop:=∀ (L:List HProp) (h:Hp),Star (c::L) h→Star (c::c::L) h
theorem dup_fro {b o:Nat} {vs:List Value}:Dup (fro b o vs):=fun L h s=>fro_two s
theorem all_cons {c:HProp} {M L:List HProp} {h:Hp} (s:Star (all (c::M)::L) h):Star (c::all M::L) h :=
 star_map (star_open (M:=c::M) s) (fun _ z=>z) fun _ z=>star_shut z
theorem cons_all {c:HProp} {M L:List HProp} {h:Hp} (s:Star (c::all M::L) h):Star (all (c::M)::L) h :=
 star_shut (M:=c::M) (star_map s (fun _ z=>z) fun _ z=>star_open z)
theorem dup_many {c:HProp} (hc:Dup c) {L:List HProp} {h:Hp} (s:Star (c::L) h):∀ n,Star (all (List.replicate n c)::c::L) h
 | 0=>star_shut (M:=[]) s
 | n+1=>by
  have s1:=dup_many hc s n
  have s2:=hc _ _ (star_swap s1)
  have s3:Star (c::all (List.replicate n c)::c::L) h:=Ent.star (.take .here (.take (.there .here) (.take .here .refl))) s2
  rw [List.replicate_succ]
  exact cons_all s3
theorem star_zip:∀ {As Bs L:List HProp} {h:Hp},As.length=Bs.length→Star (all As::all Bs::L) h→Star (all (List.zipWith (fun a b=>all [a,b]) As Bs)::L) h
 | [],[],L,h,_,s=>star_shut (M:=[]) (star_drop (star_drop s))
 | [],b::Bs,L,h,e,s=>by simp at e
 | a::As,[],L,h,e,s=>by simp at e
 | a::As,b::Bs,L,h,e,s=>by
  have s1:=all_cons s
  have s2:Star (all (b::Bs)::a::all As::L) h:=Ent.star (.take (.there (.there .here)) (.take .here (.take .here .refl))) s1
  have s3:=all_cons s2
  have s4:Star (all As::all Bs::a::b::L) h:=Ent.star (.take (.there (.there (.there .here))) (.take (.there .here) (.take (.there .here) (.take .here .refl)))) s3
  have s5:=star_zip (by simpa using e) s4
  have s6:Star (a::b::all (List.zipWith (fun a b=>all [a,b]) As Bs)::L) h:=Ent.star (.take (.there .here) (.take (.there .here) (.take .here .refl))) s5
  exact cons_all (star_shut (M:=[_,_]) s6)
theorem all_mono:∀ {As Bs L:List HProp} {h:Hp},As.length=Bs.length→(∀ (i:Nat) a b,As[i]?=some a→Bs[i]?=some b→∀ h,a h→b h)→Star (all As::L) h→Star (all Bs::L) h
 | [],[],L,h,_,_,s=>s
 | [],b::Bs,L,h,e,_,s=>by simp at e
 | a::As,[],L,h,e,_,s=>by simp at e
 | a::As,b::Bs,L,h,e,m,s=>by
  have s1:=all_cons s
  refine cons_all (star_map s1 (m 0 a b rfl rfl) fun h z=>?_)
  exact all_mono (by simpa using e) (fun i a b ha hb=>m (i+1) a b ha hb) z
theorem star_tail:∀ {M L:List HProp} {h:Hp},Star (M++L) h→Star (all L::M) h
 | [],L,h,s=>star_shut (L:=[]) (by rw [List.append_nil];exact s)
 | c::M,L,h,s=>star_swap (star_map (L:=M++L) s (fun _ z=>z) fun _ z=>star_tail z)
theorem zeros_rep {n:Nat} {v:Value}:zeros n [v]=List.replicate n v:=by
 unfold zeros
 induction n with
 | zero=>rfl
 | succ n ih=>rw [List.replicate_succ,List.flatten_cons,ih,List.replicate_succ];rfl
end
end Go.PB
namespace Go.Proofs.Ytabbkjciifnehaa
open Go Go.PB
attribute [local irreducible] Mo Bin Eql Tr Wo Ap Wle
attribute [local instance] Pass.of_no
section
abbrev RowI:=Option Addr × Nat × List Int
def rvI (y:RowI):Value:=.slice y.1 y.2.2.length y.2.1
def ThsI (L:List HProp) (a:Option Addr) (rs:List RowI):Prop:=∀ (i:Nat) y,rs[i]?=some y→∃ b o,a=some ⟨b,o,none⟩∧Rd L b (o+i) (rvI y)∧RdsO L y.1 y.2.2.length (ints y.2.2)∧y.2.2.length≤9223372036854775807∧∀ d∈y.2.2,-9223372036854775808≤d∧d≤9223372036854775807
theorem ThsI.there {L:List HProp} {a:Option Addr} {rs:List RowI} {d:HProp} (h:ThsI L a rs):ThsI (d::L) a rs:=fun i y hi=>by
 obtain ⟨b,o,e,r1,r2,r3,r4⟩:=h i y hi
 exact ⟨b,o,e,.there r1,r2.there,r3,r4⟩
abbrev RowM:=Value × List (Int × Nat)
def ShM (y:RowM):Prop:=∃ a c,y.1=.slice a y.2.length c∧(a=none→y.2=[])∧∀ z,a=some z→z=⟨z.block,z.off,none⟩
structure RowsOk (P:List RowM):Prop where
 h1:1≤P.length
 h8:P.length≤8
 h60:∀ y∈P,y.2.length≤60∧ShM y
section
variable {B:Hand} [Lets B] {x:B.X} {L F:List HProp}
end
abbrev LnB:=Nat × Nat × Value
end
end Go.Proofs.Ytabbkjciifnehaa
namespace Go.Proofs.Ytabbkjciifnehaa
open Go Go.PB
attribute [local irreducible] Mo Bin Eql Tr Wo Ap
section
theorem eqTurn {x y:Operand} {a0 b0 a1 b1 a2 b2:Int}:Eql Try.prog 49 x y (.agg #[.int .i64 a0,.int .u8 a1,.int .i64 a2]) (.agg #[.int .i64 b0,.int .u8 b1,.int .i64 b2]) (decide (a0=b0∧a1=b1∧a2=b2)) :=
 haveI p0:Und Try.prog 49 _:=⟨Try.underlying49⟩
 haveI p1:Und Try.prog 47 _:=⟨Try.underlying47⟩
 eql_turned (t1:=47) (p:=p0) (p1:=p1) (by kernel_rfl) (by kernel_rfl) (by kernel_rfl) (by decide) (by decide) (by decide) (by decide) rfl rfl rfl rfl rfl (by kernel_rfl) (by kernel_rfl) (by kernel_rfl)
def RdTr (L:List HProp) (a:Option Addr) (l:List (Nat × (Int × Int))):Prop:=∀ (i:Nat) t,l[i]?=some t→∃ b o,a=some ⟨b,o,none⟩∧Rds L b (o+3*i) [.int .i64 (t.1:Nat),.int .u8 t.2.1,.int .i64 t.2.2]
def RdI (L:List HProp) (a:Option Addr) (l:List Nat):Prop:=∀ (i:Nat) k,l[i]?=some k→∃ b o,a=some ⟨b,o,none⟩∧Rd L b (o+i) (.int .i64 (k:Nat))
theorem RdTr.there {L:List HProp} {a:Option Addr} {l:List (Nat × (Int × Int))} {d:HProp} (h:RdTr L a l):RdTr (d::L) a l:=fun i t hi=>by
 obtain ⟨b,o,e,r⟩:=h i t hi
 exact ⟨b,o,e,fun j v hj=>.there (r j v hj)⟩
theorem RdI.there {L:List HProp} {a:Option Addr} {l:List Nat} {d:HProp} (h:RdI L a l):RdI (d::L) a l:=fun i t hi=>by
 obtain ⟨b,o,e,r⟩:=h i t hi
 exact ⟨b,o,e,.there r⟩
section
variable {B:Hand} [Lets B] {L F:List HProp} {x:B.X}
def samePInv (x:B.X) (j p q:Nat) (n:Nat) (u1 u2 v1 v2:Value) (L:List HProp):Inv Nat B.X where
 e:=fun i=>[(2,.pointer (some ⟨p,0,none⟩)),(3,.pointer (some ⟨q,0,none⟩)),(j,.int .i64 (i:Nat))]
 L:=fun _=>arr q 0 [v1,v2]::arr p 0 [u1,u2]::L
 x:=fun _=>x
 ok:=fun i=>i≤n
theorem same_played_tr {a1 a2 a3 a4:Option Addr} {c1 c2 c3 c4:Nat} {tr:List (Nat × (Int × Int))} {cut:List Nat} (h1:RdTr L a1 tr) (h3:RdTr L a3 tr) (h2:RdI L a2 cut) (h4:RdI L a4 cut) (hl:tr.length<1000000000) (hl2:cut.length<1000000000) :
  Tr Try.prog B 19 [.agg #[.slice a1 tr.length c1,.slice a2 cut.length c2],.agg #[.slice a3 tr.length c3,.slice a4 cut.length c4]] L x fun v L' x'=>v=.bool true∧L'=L∧x'=x:=by
 refine Tr.post (R:=fun v L' x'=>v=.bool true∧x'=x∧∀ h,Star L' h→Star L h) ?_
  (by rintro v L' x' ⟨rfl,rfl,h2⟩;exact ⟨_,⟨rfl,rfl,rfl⟩,h2⟩)
 refine tr_of_body Try.func19 rfl Try.ntmps19 (by simp) fun um Q _ hQ=>?_
 simp only [argE,Nat.zero_add,Nat.reduceAdd]
 repeat (first | (apply wo_mo;apply mo_box;exact rfl;exact trivial) | refine we_seq ?_ | (refine wR ?_;try simp only [oS]))
 rintro v' L' ⟨p,rfl,rfl⟩
 repeat (first | (apply wo_mo;apply mo_box;exact rfl;exact trivial))
 rintro v' L' ⟨q,rfl,rfl⟩
 refine wo_ent (arr q 0 [.slice a3 tr.length c3,.slice a4 cut.length c4]::arr p 0 [.slice a1 tr.length c1,.slice a2 cut.length c2]::L) .refl ?_
 repeat (first | refine wneqF ?_ | refine we_seq ?_ | (refine wR ?_;try simp only [oS]) | refine wo_nil ?_ | refine wM ?_ | refine wA ?_ | refine wJ ?_ | refine wD ?_ | refine wL ?_ | refine wE ?_ | refine wF ?_ | refine we_skip ?_ | refine we_block ?_)
 refine we_loopN (samePInv x 5 p q tr.length (.slice a1 tr.length c1) (.slice a2 cut.length c2) (.slice a3 tr.length c3) (.slice a4 cut.length c4) L) (fun i=>tr.length-i) 0 (Nat.zero_le _) ⟨rfl,rfl,rfl,trivial⟩ .refl rfl ?_
 intro i hi
 replace hi:i≤tr.length:=hi
 simp only [samePInv]
 by_cases hlt:i<tr.length
 ·obtain ⟨t,ht⟩:∃ t,tr[i]?=some t:=⟨tr[i],List.getElem?_eq_getElem hlt⟩
  obtain ⟨b1,o1,rfl,r1⟩:=h1 i t ht
  obtain ⟨b3,o3,rfl,r3⟩:=h3 i t ht
  have r1:Rds (arr q 0 [.slice (some ⟨b3,o3,none⟩) tr.length c3,.slice a4 cut.length c4]::arr p 0 [.slice (some ⟨b1,o1,none⟩) tr.length c1,.slice a2 cut.length c2]::L) b1 (o1+3*i) [.int .i64 (t.1:Nat),.int .u8 t.2.1,.int .i64 t.2.2]:=fun j v hj=>.there (.there (r1 j v hj))
  have r3:Rds (arr q 0 [.slice (some ⟨b3,o3,none⟩) tr.length c3,.slice a4 cut.length c4]::arr p 0 [.slice (some ⟨b1,o1,none⟩) tr.length c1,.slice a2 cut.length c2]::L) b3 (o3+3*i) [.int .i64 (t.1:Nat),.int .u8 t.2.1,.int .i64 t.2.2]:=fun j v hj=>.there (.there (r3 j v hj))
  have heq:=eqTurn (x:=.tmp 34) (y:=.tmp 39) (a0:=(t.1:Nat)) (b0:=(t.1:Nat)) (a1:=t.2.1) (b1:=t.2.1) (a2:=t.2.2) (b2:=t.2.2)
  rw [show decide ((((t.1:Nat):Int)=(t.1:Nat))∧t.2.1=t.2.1∧t.2.2=t.2.2)=true by simp] at heq
  repeat (first | refine wlssT ?_ | refine we_seq ?_ | (refine wR ?_;try simp only [oS]) | refine wo_nil ?_ | refine wM ?_ | refine wD ?_ | refine wL ?_ | refine wE ?_ | refine wT ?_ | refine we_skip ?_ | refine we_block ?_)
  refine we_draw (List.range' 0 11) (by kernel_rfl) ?_
  repeat (first | (apply ap_pure;exact rfl;exact rfl;exact trivial;intro L;apply mo_indexAddr (r:=o1+3*i);exact rfl;exact rfl;omega;omega;omega) | (apply ap_pure;exact rfl;exact rfl;exact trivial;intro L;apply mo_indexAddr (r:=o3+3*i);exact rfl;exact rfl;omega;omega;omega) | (apply ap_read;exact rfl;exact rfl;exact trivial;apply mo_loadA (vs:=[.int .i64 (t.1:Nat),.int .u8 t.2.1,.int .i64 t.2.2]);exact rfl;exact rfl;exact r1) | (apply ap_read;exact rfl;exact rfl;exact trivial;apply mo_loadA (vs:=[.int .i64 (t.1:Nat),.int .u8 t.2.1,.int .i64 t.2.2]);exact rfl;exact rfl;exact r3) | (apply ap_pure;exact rfl;exact rfl;exact trivial;intro L;apply mo_bin;exact rfl;exact rfl;apply bin_ne;exact heq) | refine aM ?_ | refine aD ?_ | refine aL ?_ | refine ap_end ?_)
  repeat (first | (refine wR ?_;try simp only [oS]) | refine wo_nil ?_ | refine wM ?_ | refine wA ?_ | refine wadd ?_ | refine wF ?_ | refine we_skip ?_)
  refine at_round (I:=samePInv x 5 p q tr.length (.slice (some ⟨b1,o1,none⟩) tr.length c1) (.slice a2 cut.length c2) (.slice (some ⟨b3,o3,none⟩) tr.length c3) (.slice a4 cut.length c4) L) (R:=fun j=>tr.length-j<tr.length-i) (i+1) (by omega) (show i+1≤tr.length by omega) ?_ .refl rfl
  exact ⟨rfl,rfl,rfl,trivial⟩
 obtain rfl:i=tr.length:=by omega
 repeat (first | refine wlssF ?_ | refine we_seq ?_ | (refine wR ?_;try simp only [oS]) | refine wo_nil ?_ | refine wM ?_ | refine wA ?_ | refine wD ?_ | refine wL ?_ | refine wE ?_ | refine wF ?_ | refine we_block ?_ | refine we_exit ?_)
 refine we_loopN (samePInv x 6 p q cut.length (.slice a1 tr.length c1) (.slice a2 cut.length c2) (.slice a3 tr.length c3) (.slice a4 cut.length c4) L) (fun i=>cut.length-i) 0 (Nat.zero_le _) ⟨rfl,rfl,rfl,trivial⟩ .refl rfl ?_
 intro i hi
 replace hi:i≤cut.length:=hi
 simp only [samePInv]
 by_cases hlt:i<cut.length
 ·obtain ⟨t,ht⟩:∃ t,cut[i]?=some t:=⟨cut[i],List.getElem?_eq_getElem hlt⟩
  obtain ⟨b1,o1,rfl,r1⟩:=h2 i t ht
  obtain ⟨b3,o3,rfl,r3⟩:=h4 i t ht
  have r1:Rd (arr q 0 [.slice a3 tr.length c3,.slice (some ⟨b3,o3,none⟩) cut.length c4]::arr p 0 [.slice a1 tr.length c1,.slice (some ⟨b1,o1,none⟩) cut.length c2]::L) b1 (o1+i) (.int .i64 (t:Nat)):=.there (.there r1)
  have r3:Rd (arr q 0 [.slice a3 tr.length c3,.slice (some ⟨b3,o3,none⟩) cut.length c4]::arr p 0 [.slice a1 tr.length c1,.slice (some ⟨b1,o1,none⟩) cut.length c2]::L) b3 (o3+i) (.int .i64 (t:Nat)):=.there (.there r3)
  repeat (first | refine wlssT ?_ | refine we_seq ?_ | (refine wR ?_;try simp only [oS]) | refine wo_nil ?_ | refine wM ?_ | refine wD ?_ | refine wL ?_ | refine wE ?_ | refine wT ?_ | refine we_skip ?_ | refine we_block ?_)
  refine we_draw (List.range' 0 11) (by kernel_rfl) ?_
  repeat (first | (apply ap_pure;exact rfl;exact rfl;exact trivial;intro L;apply mo_indexAddr (r:=o1+i);exact rfl;exact rfl;omega;omega;omega) | (apply ap_pure;exact rfl;exact rfl;exact trivial;intro L;apply mo_indexAddr (r:=o3+i);exact rfl;exact rfl;omega;omega;omega) | (apply ap_read;exact rfl;exact rfl;exact trivial;apply mo_load;exact rfl;exact r1) | (apply ap_read;exact rfl;exact rfl;exact trivial;apply mo_load;exact rfl;exact r3) | refine aM ?_ | refine aD ?_ | (apply ap_pure;exact rfl;exact rfl;exact gY;intro L;apply mo_bin;exact rfl;exact rfl;exact bin_neq) | refine aL ?_ | refine ap_end ?_)
  rw [show (!decide (((t:Nat):Int)=((t:Nat):Int)))=false by simp]
  repeat (first | (refine wR ?_;try simp only [oS]) | refine wo_nil ?_ | refine wM ?_ | refine wA ?_ | refine wadd ?_ | refine wF ?_ | refine we_skip ?_)
  refine at_round (I:=samePInv x 6 p q cut.length (.slice a1 tr.length c1) (.slice (some ⟨b1,o1,none⟩) cut.length c2) (.slice a3 tr.length c3) (.slice (some ⟨b3,o3,none⟩) cut.length c4) L) (R:=fun j=>cut.length-j<cut.length-i) (i+1) (by omega) (show i+1≤cut.length by omega) ?_ .refl rfl
  exact ⟨rfl,rfl,rfl,trivial⟩
 obtain rfl:i=cut.length:=by omega
 repeat (first | refine wlssF ?_ | refine we_seq ?_ | (refine wR ?_;try simp only [oS]) | refine wo_nil ?_ | refine wM ?_ | refine wA ?_ | refine wD ?_ | refine wL ?_ | refine wE ?_ | refine wF ?_ | refine we_ret ?_ | refine we_exit ?_)
 (first | refine or1 Try.func19 Try.results19 hQ rfl ?_ | refine on1 Try.func19 Try.results19 hQ rfl ?_)
 exact ⟨rfl,rfl,fun h st=>Ent.star (.drop (.drop .refl)) st⟩
end
end
end Go.Proofs.Ytabbkjciifnehaa
namespace Go.Proofs.Ytabbkjciifnehaa
open Go Go.PB
attribute [local irreducible] Mo Bin Eql Tr Wo Ap Wle
attribute [local instance] Pass.of_no
section
theorem rdtr_vecT {L F:List HProp} {a:Option Addr} {n c:Nat} {tr:List (Nat × (Int × Int))} (hh:Has L (vec 3 (.slice a n c) (trCP tr)) F) (hn:tr.length=n) (hz:a=none→n=0) (hs:∀ y,a=some y→y=⟨y.block,y.off,none⟩):RdTr L a tr:=fun i t hi=>by
 have hlt:=(List.getElem?_eq_some_iff.1 hi).1
 cases a with
 | none=>have:=hz rfl;omega
 | some w =>
  obtain ⟨b,o,sp⟩:=w
  cases hs _ rfl
  refine ⟨b,o,rfl,fun j v hj=>?_⟩
  have hjl:=(List.getElem?_eq_some_iff.1 hj).1
  rw [Nat.add_assoc]
  refine rd_vec hh ?_
  exact (flat_get (f:=fun t:Nat × (Int × Int)=>[Value.int .i64 (t.1:Nat),.int .u8 t.2.1,.int .i64 t.2.2]) (k:=3) (fun _=>rfl) _ _ _ _ hi (by simpa using hjl)).trans hj
theorem rdi_vecT {L F:List HProp} {a:Option Addr} {n c:Nat} {l:List Nat} (hh:Has L (vec 1 (.slice a n c) (cutC l)) F) (hn:l.length=n) (hz:a=none→n=0) (hs:∀ y,a=some y→y=⟨y.block,y.off,none⟩):RdI L a l:=fun i t hi=>by
 have hlt:=(List.getElem?_eq_some_iff.1 hi).1
 cases a with
 | none=>have:=hz rfl;omega
 | some w =>
  obtain ⟨b,o,sp⟩:=w
  cases hs _ rfl
  exact ⟨b,o,rfl,rd_vec hh (by unfold cutC;rw [List.getElem?_map,hi];rfl)⟩
theorem rdso_vecT {L F:List HProp} {a:Option Addr} {n c:Nat} {cs:List Value} (hh:Has L (vec 1 (.slice a n c) cs) F) (hn:cs.length=n*1) (hz:a=none→n=0) (hy:∀ y,a=some y→y=⟨y.block,y.off,none⟩):RdsO L a n cs:=by
 refine ⟨by omega,?_⟩
 cases a with
 | none=>exact .inl (hz rfl)
 | some y =>
  obtain ⟨b,o,sp⟩:=y
  cases hy _ rfl
  exact .inr ⟨b,o,rfl,fun i v hi=>rd_vec hh hi⟩
end
section
def cutInvA (m:Nat) (L:List HProp) (rv:Value) (l:List Int):PB.Inv (Option Addr × Nat × Nat) MX where
 e:=fun i=>[(0,.slice i.1 i.2.1 i.2.2),(1,rv),(22,.bool false)].take 2
 L:=fun _=>L
 x:=fun _=>.idle
 ok:=fun i=>RdsO L i.1 i.2.1 (ints l)∧i.2.1≤m
end
end Go.Proofs.Ytabbkjciifnehaa
namespace Go.PB
section
variable {P:Program} {cv:Value} {kd:CallKind} {n:Nat} {e:Env} {z:Z} {L:List HProp} {x:TX} {Kp:TX→Prop}
structure KpOk (Kp:TX→Prop):Prop where
 act:∀ (x:TX) q n m f n' st,x.ph=.free q n→x.g.plan q=some (m,f)→Kp x→Kp { x with ph:=.free (f st).2 n' }
 say:∀ (x:TX) s q n,x.ph=.busy s q n→Kp x→Kp { x with ph:=x.g.next q n }
 turn:∀ (x:TX) q n m f n' s,x.ph=.said q n→x.g.plan q=some (m,f)→Kp x→Kp { x with ph:=.busy (f s).1 (f s).2 n' }
 cut:∀ (x:TX) q n m f,x.ph=.said q n→x.g.plan q=some (m,f)→Kp x→Kp { x with ph:=.cut q }
theorem keepg_closed (hK:KpOk Kp) {main:Bool} {S:Frame→List Frame→Hp→TX→Prop} (C:Closed P (tHand P cv) main S):Closed P (tHand P cv) main fun fr cs h x=>Kp x→S fr cs h x where
 priv:=fun fr cs h x hs hw=>C.priv _ _ _ _ fun w f=>by
  obtain ⟨fr',cs',w',es,h',a,b,c,d⟩:=hs w f
  exact ⟨fr',cs',w',es,h',a,b,c,d hw⟩
 act:=fun fr cs h x o at_ ne a hw=>C.act _ _ _ _ o at_ ne (by
  obtain ⟨q,n,m,f,a,b,c⟩:=a
  refine ⟨q,n,m,f,a,b,fun n' st r h1 h2 h3=>?_⟩
  obtain ⟨b',o,old,v,new,c1,c2,c3,v',e,c4⟩:=c n' st r h1 h2 h3
  exact ⟨b',o,old,v,new,c1,c2,c3,v',e,c4 (hK.act x q n m f n' st a b hw)⟩)
 comm:=fun fr cs h x o cases bl sh at_ hr a hw=>C.comm _ _ _ _ o cases bl sh at_ hr (by
  obtain ⟨h1,h2,h3⟩:=a
  refine ⟨h1,h2,?_⟩
  rcases h3 with ⟨s,q,n,z1,z2,h',r,a,b,c,d,e⟩ | ⟨q,n,m,f,z1,z2,a,b,c,d,e⟩
  ·exact .inl ⟨s,q,n,z1,z2,h',r,a,b,c,d,e (hK.say x s q n a hw)⟩
  ·exact .inr ⟨q,n,m,f,z1,z2,a,b,c,fun n' s r h' u v w=>d n' s r h' u v w (hK.turn x q n m f n' s a b hw),e (hK.cut x q n m f a b hw)⟩)
 spawn:=fun _ _ _ _ _ _ _ _ a _=>a.elim
 ghost:=fun fr cs h x a hw=>C.ghost _ _ _ _ fun hf=>let ⟨h1,z,q⟩:=a hf;⟨h1,z,q hw⟩
 late:=fun _ _ _ _ _ _ _ _ _ _ a _=>a.elim
def keepK (Kp:TX→Prop) (K:Post (tHand P cv)):Post (tHand P cv)
 | .exit i,t,z,h,x=>K (.exit i) t z h x
 | .goto l,t,z,h,x=>K (.goto l) t z h x
 | .normal,t,z,h,x=>Kp x→K .normal t z h x
 | .ret,t,z,h,x=>Kp x→K .ret t z h x
 | .panic ch,t,z,h,x=>Kp x→K (.panic ch) t z h x
theorem we_keepg {c:Code} {K:Post (tHand P cv)} (w:We P (tHand P cv) kd n c (keepK Kp K) e z L x) (hK:KpOk Kp) (hg:Kp x):We P (tHand P cv) kd n c K e z L x :=
 fun t h a1 a2 a3 main S C b k cs ok ha=>w t h a1 a2 a3 main (fun fr cs h x=>Kp x→S fr cs h x) (keepg_closed hK C) b k cs ok (fun ex t z h x q=>by
  cases ex with
  | normal=>exact fun hg=>ha .normal t z h x (q hg)
  | ret=>exact fun todo hg=>ha .ret t z h x (q hg) todo
  | panic ch=>exact fun todo hg=>ha (.panic ch) t z h x (q hg) todo
  | exit id=>obtain ⟨k',h1,h2⟩:=ha (.exit id) t z h x q;exact ⟨k',h1,fun _=>h2⟩
  | goto l=>obtain ⟨k',h1,h2⟩:=ha (.goto l) t z h x q;exact ⟨k',h1,fun _=>h2⟩) hg
theorem at_keepN {K:Post (tHand P cv)} (w:At n e L fun t h=>K .normal t z h x):At n e L fun t h=>keepK Kp K .normal t z h x:=fun t h a b c _=>w t h a b c
theorem pass_oneG {f d:FuncId} {fn:Func} {Q:PB.End→FrameMode→Hp→TX→Prop} {um:FrameMode} {cap args:Array Value} [en:Ent' P d] (hf:P.funcs[f]?=some fn)
  (w:∀ ch h (x:TX) (Q':PB.End→FrameMode→Hp→TX→Prop),Kp x→(∃ q,x.ph=.cut q∧Star [x.g.Pv q] h)→(∀ v h',(∃ q,x.ph=.cut q∧Star [x.g.Fin q] h')→Q' (.ret v) (.panicking ch) h' x)→Wf P (tHand P cv) d .deferred (args++cap) (.panicking ch) h x Q')
  (qc:∀ ch h' (x':TX),(ch=[{ v:=cv,recovered:=false }]∧∃ q,x'.ph=.cut q∧Star [x'.g.Fin q] h')→Q (.pan ch) um h' x'):Pass (keepK Kp (leave P (tHand P cv) f kd Q)) ⟨[{ target:=.fn (.func d) cap,args:=args }],um⟩ :=
 ⟨fun ch t h x hc hg=>by
  obtain ⟨q,h1,rfl,h2⟩:=hc
  show Wd P (tHand P cv) f kd (.panicking [{ v:=cv,recovered:=false }]) t ⟨[{ target:=.fn (.func d) cap,args:=args }],um⟩ h x Q
  refine wd_cons (by simp) rfl en.ok ?_
  refine w _ h x _ hg ⟨q,h1,h2⟩ fun v h' hC=>?_
  show Wd P (tHand P cv) f kd (.panicking [{ v:=cv,recovered:=false }]) t ⟨[],um⟩ h' x Q
  exact wd_pan hf rfl (qc _ h' x ⟨rfl,hC⟩)⟩
end
end Go.PB
namespace Go.Proofs.Ytabbkjciifnehaa
open Go Go.PB
attribute [local irreducible] Mo Bin Eql Tr Wo Ap Wle
attribute [local instance] Pass.of_no
abbrev CtQ:=Nat × Nat × Nat
def ctPlan:CtQ→Option ((Int × Int) × (Unit→Unit × CtQ)):=fun q=>if q.2.2<q.2.1 then some ((0,0),fun s=>(s,(q.1,q.2.1,q.2.2+1))) else none
def ctV (q:CtQ):Int:=if q.2.2<q.2.1 then 1 else 11
def ctG (M:Nat→Int→HProp):Game where
 σ:=Unit
 θ:=CtQ
 U:=fun _=>all []
 plan:=ctPlan
 ok:=fun _=>True
 Pv:=fun q=>M q.1 0
 Fin:=fun q=>M q.1 (ctV q)
abbrev CtB:=Nat × Nat × Nat
def ctMk (lb la nt k:Nat) (y:CtB) (v:Int):HProp:=all [fro lb 0 [.slice (some ⟨la,0,none⟩) nt nt],arr y.1 0 [.int .i64 (k:Nat)],arr y.2.1 0 [.int .i64 (y.2.2:Nat)],arr la k [.int .i64 v]]
def ctM (lb la nt:Nat) (tq:List CtB) (k:Nat) (v:Int):HProp:=match tq[k]? with
 | some y=>ctMk lb la nt k y v
 | none=>all []
theorem ctM_at {lb la nt:Nat} {tq:List CtB} {k:Nat} {y:CtB} {v:Int} (h:tq[k]?=some y):ctM lb la nt tq k v=ctMk lb la nt k y v:=by
 unfold ctM;rw [h]
abbrev ctF (lb:Nat) (y:CtB):Value:=.func (.func 24) #[] #[.pointer (some ⟨lb,0,none⟩),.pointer (some ⟨y.1,0,none⟩),.pointer (some ⟨y.2.1,0,none⟩)]
section
variable {lb la nt k:Nat} {y:CtB} {L F:List HProp} {x:TX}
theorem ctd_ok {v0:Int} (hk:k<nt) (hn:nt≤16) (hv:0≤v0∧v0≤100) (um:FrameMode) {h:Hp} {Q:PB.End→FrameMode→Hp→TX→Prop} (hs:Star (ctMk lb la nt k y v0::F) h)
  (hq:∀ w h',Star (ctMk lb la nt k y (v0+1)::F) h'→Q (.ret w) um h' x):Wf Try.prog tH 25 .deferred [.pointer (some ⟨lb,0,none⟩),.pointer (some ⟨y.1,0,none⟩)].toArray um h x Q:=by
 refine wf_of_argE (args:=[.pointer (some ⟨lb,0,none⟩),.pointer (some ⟨y.1,0,none⟩)]) (L:=fro lb 0 [.slice (some ⟨la,0,none⟩) nt nt]::arr y.1 0 [.int .i64 (k:Nat)]::arr y.2.1 0 [.int .i64 (y.2.2:Nat)]::arr la k [.int .i64 v0]::F) Try.func25 rfl Try.ntmps25 (by simp) (star_open (M:=[_,_,_,_]) hs) ?_
 simp only [argE,Nat.zero_add,Nat.reduceAdd]
 have w1:Rd (fro lb 0 [.slice (some ⟨la,0,none⟩) nt nt]::arr y.1 0 [.int .i64 (k:Nat)]::arr y.2.1 0 [.int .i64 (y.2.2:Nat)]::arr la k [.int .i64 v0]::F) lb 0 (.slice (some ⟨la,0,none⟩) nt nt):=Rd.fro (k:=0) rfl rfl
 have w2:Rd (fro lb 0 [.slice (some ⟨la,0,none⟩) nt nt]::arr y.1 0 [.int .i64 (k:Nat)]::arr y.2.1 0 [.int .i64 (y.2.2:Nat)]::arr la k [.int .i64 v0]::F) y.1 0 (.int .i64 (k:Nat)):=.there (.row0 rfl)
 have w3:Rd (fro lb 0 [.slice (some ⟨la,0,none⟩) nt nt]::arr y.1 0 [.int .i64 (k:Nat)]::arr y.2.1 0 [.int .i64 (y.2.2:Nat)]::arr la k [.int .i64 v0]::F) la (0+k) (.int .i64 v0):=.there (.there (.there (Rd.row (k:=0) rfl (by omega))))
 have ha:IntKind.i64.wrap (v0+1)=v0+1:=wrap_i64 (by omega) (by omega)
 skip
 refine we_draw (List.range' 0 9) (by kernel_rfl) ?_
 repeat (first | (apply ap_read;exact rfl;exact rfl;exact trivial;apply mo_load;exact rfl;(first | exact w1 | exact w2 | exact w3)) | (apply ap_pure;exact rfl;exact rfl;exact trivial;intro L;apply mo_index1;exact rfl;exact rfl;omega) | (apply ap_pure;exact rfl;exact rfl;exact trivial;intro L;apply mo_bin;exact rfl;exact rfl;apply bin_add;exact ha))
 refine ap_loud rfl rfl rfl rfl rfl trivial (mo_store rfl rfl rfl (Wt.row (k:=0) (o:=k) (vs:=[.int .i64 v0]) (by show 0<1;omega) (by omega) (.there (.there (.there .here))))) ?_
 rintro v' L' ⟨rfl,rfl⟩
 repeat (first | refine ap_end ?_)
 exact at_ret0 (kd:=.deferred) (R:=fun v L' x'=>(∀ h,Star L' h→Star (ctMk lb la nt k y (v0+1)::F) h)∧x'=x) Try.func25 Try.results25 (by rintro v L' x' h' ⟨hl,rfl⟩ st;exact hq v h' (hl _ st)) (.inr rfl:Ex.normal=.ret∨Ex.normal=.normal) ⟨fun h st=>star_shut (M:=[_,_,_,_]) st,rfl⟩
def ctInv (tq:List CtB) (lb la nt k:Nat) (y:CtB) (sb says turn fin wg:Nat) (F:List HProp):PB.Inv (Nat × Nat) TX where
 e:=fun i=>[(0,gateV sb),(1,.pointer (some ⟨lb,0,none⟩)),(2,.pointer (some ⟨y.1,0,none⟩)),(3,.pointer (some ⟨y.2.1,0,none⟩)),(5,.int .i64 (i.1:Nat))]
 L:=fun i=>(ctG (ctM lb la nt tq)).U ()::seatR sb says turn fin::ctMk lb la nt k y 0::F
 x:=fun i=>tx (ctG (ctM lb la nt tq)) says turn fin wg (.busy () ((k,y.2.2,i.1):CtQ) i.2)
 ok:=fun i=>i.1≤y.2.2
def ctIni (k m:Nat):Unit→Unit × CtQ:=fun s=>(s,(k,m,0))
theorem ctMk_up {lb la nt k:Nat} {y:CtB} {v:Int} {h:Hp} (st:Star [ctMk lb la nt k y v] h):ctMk lb la nt k y v h:=by
 have:=star_open st
 rwa [List.append_nil] at this
def ctPh (k:Nat):Ph Unit CtQ→Prop
 | .busy _ q _=>q.1=k
 | .said q _=>q.1=k
 | .over q=>q.1=k
 | .cut q=>q.1=k∧q.2.2<q.2.1
 | .free q _=>q.1=k
def ctKp (M:Nat→Int→HProp) (k:Nat) (x:TX):Prop:=∃ says turn fin wg,∃ ph:Ph Unit CtQ,x=(⟨ctG M,says,turn,fin,wg,ph⟩:TX)∧ctPh k ph
theorem ctPlan_k {q:CtQ} {m:Int × Int} {f:Unit→Unit × CtQ} {s:Unit} (h:ctPlan q=some (m,f)):(f s).2.1=q.1∧q.2.2<q.2.1:=by
 unfold ctPlan at h
 split at h
 ·rename_i hlt
  cases h
  exact ⟨rfl,hlt⟩
 ·cases h
theorem ctKp_ok {M:Nat→Int→HProp} {k:Nat}:KpOk (ctKp M k) where
 act:=by
  rintro x q n m f n' st hx hp ⟨says,turn,fin,wg,ph,rfl,hph⟩
  replace hph:ctPh k (Ph.free (σ:=Unit) (θ:=CtQ) q n):=by
   have h2:ph=(Ph.free (σ:=Unit) (θ:=CtQ) q n):=hx
   rw [← h2];exact hph
  exact ⟨_,_,_,_,_,rfl,(ctPlan_k (s:=st) hp).1.trans hph⟩
 say:=by
  rintro x s q n hx ⟨says,turn,fin,wg,ph,rfl,hph⟩
  replace hph:ctPh k (Ph.busy (σ:=Unit) (θ:=CtQ) s q n):=by
   have h2:ph=(Ph.busy (σ:=Unit) (θ:=CtQ) s q n):=hx
   rw [← h2];exact hph
  refine ⟨says,turn,fin,wg,(ctG M).next q n,rfl,?_⟩
  unfold Game.next
  split
  ·exact hph
  ·exact hph
 turn:=by
  rintro x q n m f n' s hx hp ⟨says,turn,fin,wg,ph,rfl,hph⟩
  replace hph:ctPh k (Ph.said (σ:=Unit) (θ:=CtQ) q n):=by
   have h2:ph=(Ph.said (σ:=Unit) (θ:=CtQ) q n):=hx
   rw [← h2];exact hph
  exact ⟨_,_,_,_,_,rfl,(ctPlan_k (s:=s) hp).1.trans hph⟩
 cut:=by
  rintro x q n m f hx hp ⟨says,turn,fin,wg,ph,rfl,hph⟩
  replace hph:ctPh k (Ph.said (σ:=Unit) (θ:=CtQ) q n):=by
   have h2:ph=(Ph.said (σ:=Unit) (θ:=CtQ) q n):=hx
   rw [← h2];exact hph
  exact ⟨_,_,_,_,_,rfl,hph,(ctPlan_k (s:=()) hp).2⟩
set_option maxHeartbeats 1000000 in
theorem ct_ok {tq:List CtB} (hy:tq[k]?=some y) (hk:k<nt) (hn:nt≤16) (hm:y.2.2≤100000):ThrC (ctG (ctM lb la nt tq)) (ctIni k y.2.2) (ctF lb y) (ctM lb la nt tq k 0) where
 run:=by
  refine ⟨_,_,_,rfl,inferInstance,fun sb says turn fin wg (s:Unit) n F hok=>?_⟩
  rw [ctM_at hy]
  show TrC Try.prog tH _ [gateV sb,.pointer (some ⟨lb,0,none⟩),.pointer (some ⟨y.1,0,none⟩),.pointer (some ⟨y.2.1,0,none⟩)] _ (tx (ctG (ctM lb la nt tq)) says turn fin wg (.busy () ((k,y.2.2,0):CtQ) n)) _ _
  refine trc_of_body Try.func24 rfl Try.ntmps24 (by simp) fun um Q hQ hC=>we_keepg (Kp:=ctKp (ctM lb la nt tq) k) ?_ ctKp_ok ⟨_,_,_,_,_,rfl,rfl⟩
  simp only [argE,Nat.zero_add,Nat.reduceAdd]
  repeat (first | (apply wo_po;apply mo_makeFunc (first:=[]) (cap:=[_,_]) (vf:=[]);exact .nil;exact .cons rfl (.cons rfl .nil);exact trivial) | refine we_seq ?_ | (refine wR ?_;try simp only [oS]))
  refine wo_defer (first:=[]) (cap:=[_,_]) (args:=[]) (vs:=[]) rfl .nil trivial ?_
  haveI hps:Pass (keepK (ctKp (ctM lb la nt tq) k) (leave Try.prog tH 24 .normal Q)) ⟨[{ target:=.fn (.func 25) [.pointer (some ⟨lb,0,none⟩),.pointer (some ⟨y.1,0,none⟩)].toArray,args:=([]++[]).toArray }],um⟩ :=
   pass_oneG Try.func24 (fun ch h x Q' hg hs hq=>by
    obtain ⟨says',turn',fin',wg',ph,rfl,hph⟩:=hg
    obtain ⟨q,hq1,hs⟩:=hs
    replace hph:ctPh k (Ph.cut (σ:=Unit) (θ:=CtQ) q):=by
     have h2:ph=(Ph.cut (σ:=Unit) (θ:=CtQ) q):=hq1
     rw [← h2];exact hph
    obtain ⟨hk1,hlt⟩:=hph
    have hs':Star [ctM lb la nt tq q.1 0] h:=hs
    rw [hk1,ctM_at hy] at hs'
    refine ctd_ok (F:=[]) (v0:=0) hk hn (by omega) (.panicking ch) hs' fun w h' hw=>hq w h' ⟨q,hq1,?_⟩
    show Star [ctM lb la nt tq q.1 (ctV q)] h'
    rw [hk1,ctM_at hy,show ctV q=0+1 from if_pos hlt]
    exact hw) fun ch h' x' hc=>hC ch h' x' hc
  repeat (first | refine we_seq ?_ | (refine wR ?_;try simp only [oS]) | refine wo_nil ?_ | refine wA ?_ | refine we_block ?_)
  refine we_loopN (ctInv tq lb la nt k y sb says turn fin wg F) (fun i=>y.2.2-i.1) (0,n) (Nat.zero_le _) ⟨rfl,rfl,rfl,rfl,rfl,trivial⟩ (by exact (.refl:Ent ((ctG (ctM lb la nt tq)).U ()::seatR sb says turn fin::ctMk lb la nt k y 0::F) _)) rfl ?_
  rintro ⟨i,m⟩ hi
  replace hi:i≤y.2.2:=hi
  simp only [ctInv]
  have w3:∀ {d1 d2:HProp},Rd (d1::d2::ctMk lb la nt k y 0::F) y.2.1 0 (.int .i64 (y.2.2:Nat)):=.there (.there (fun h s=>(show Rd [fro lb 0 [.slice (some ⟨la,0,none⟩) nt nt],arr y.1 0 [.int .i64 (k:Nat)],arr y.2.1 0 [.int .i64 (y.2.2:Nat)],arr la k [.int .i64 0]] y.2.1 0 (.int .i64 (y.2.2:Nat)) from .there (.there (.row0 rfl))) h (star_drop (star_tail (star_open s)))))
  by_cases hlt:i<y.2.2
  ·have hp:ctPlan ((k,y.2.2,i):CtQ)=some ((0,0),fun s=>(s,((k,y.2.2,i+1):CtQ))):=if_pos hlt
   repeat (first | (apply wo_po;apply mo_load;exact rfl;exact w3;exact trivial) | (apply wo_po;apply mo_build (pv:=[]);exact rfl;exact .nil;exact rfl;exact trivial) | refine wlssT ?_ | refine we_seq ?_ | (refine wR ?_;try simp only [oS]) | refine wo_nil ?_ | refine wM ?_ | refine wT ?_ | refine we_skip ?_ | refine we_block ?_)
   refine wo_invoke (args:=[_]) rfl (.cons rfl .nil) trivial (seat_tr (g:=ctG (ctM lb la nt tq)) (mk:=(0,0)) (q:=((k,y.2.2,i):CtQ)) (f:=fun s:Unit=>(s,((k,y.2.2,i+1):CtQ))) hp .here .here (fun h st=>?_)) ?_
   ·show ctM lb la nt tq k 0 h
    rw [ctM_at hy]
    exact ctMk_up (star_map (star_drop st) (fun _ z=>z) fun _ _=>trivial)
   rintro v' L' x' ⟨m1,(s1:Unit),hm1,hs1,rfl,rfl,rfl⟩
   have hinc:IntKind.i64.wrap (((i:Nat):Int)+1)=((i+1:Nat):Int):=(wrap_i64 (by omega) (by omega)).trans (by omega)
   repeat (first | (apply wo_po;apply mo_bin;exact rfl;exact rfl;apply bin_add;exact hinc;exact trivial) | (refine wR ?_;try simp only [oS]) | refine wo_nil ?_ | refine wM ?_ | refine wA ?_)
   exact at_round (B:=tH) (I:=ctInv tq lb la nt k y sb says turn fin wg F) (R:=fun j=>y.2.2-j.1<y.2.2-i) (i+1,m1) (by show y.2.2-(i+1)<y.2.2-i;omega) (show i+1≤y.2.2 by omega) ⟨rfl,rfl,rfl,rfl,rfl,trivial⟩ .refl rfl
  ·obtain rfl:i=y.2.2:=by omega
   repeat (first | (apply wo_po;apply mo_load;exact rfl;exact w3;exact trivial) | refine wlssF ?_ | refine we_seq ?_ | (refine wR ?_;try simp only [oS]) | refine wo_nil ?_ | refine wM ?_ | refine wF ?_ | refine we_exit ?_)
   refine we_star (fro lb 0 [.slice (some ⟨la,0,none⟩) nt nt]::arr y.1 0 [.int .i64 (k:Nat)]::arr y.2.1 0 [.int .i64 (y.2.2:Nat)]::arr la k [.int .i64 0]::(ctG (ctM lb la nt tq)).U ()::seatR sb says turn fin::F) (fun h st=>star_open (M:=[_,_,_,_]) (Ent.star (.take (.there (.there .here)) .refl) st)) ?_
   have v1:∀ {M:List HProp},Rd (fro lb 0 [.slice (some ⟨la,0,none⟩) nt nt]::M) lb 0 (.slice (some ⟨la,0,none⟩) nt nt):=Rd.fro (k:=0) rfl rfl
   have v2:∀ {d1:HProp} {M:List HProp},Rd (d1::arr y.1 0 [.int .i64 (k:Nat)]::M) y.1 0 (.int .i64 (k:Nat)):=.there (.row0 rfl)
   have v3:∀ {d1 d2 d3:HProp} {M:List HProp},Rd (d1::d2::d3::arr la k [.int .i64 0]::M) la (0+k) (.int .i64 0):=.there (.there (.there (Rd.row (k:=0) rfl (by omega))))
   refine we_draw (List.range' 0 9) (by kernel_rfl) ?_
   repeat (first | (apply ap_read;exact rfl;exact rfl;exact trivial;apply mo_load;exact rfl;(first | exact v1 | exact v2 | exact v3)) | (apply ap_pure;exact rfl;exact rfl;exact trivial;intro L;apply mo_index1;exact rfl;exact rfl;omega) | (apply ap_pure;exact rfl;exact rfl;exact trivial;intro L;apply mo_bin;exact rfl;exact rfl;apply bin_add;exact (rfl:IntKind.i64.wrap (0+10)=10)))
   refine ap_loud rfl rfl rfl rfl rfl trivial (mo_store rfl rfl rfl (Wt.row (k:=0) (o:=k) (vs:=[.int .i64 0]) (by show 0<1;omega) (by omega) (.there (.there (.there .here))))) ?_
   rintro v' L' ⟨rfl,rfl⟩
   repeat (first | refine ap_end ?_)
   refine at_keepN (at_one (L':=ctMk lb la nt k y (10+1)::(ctG (ctM lb la nt tq)).U ()::seatR sb says turn fin::F) (.inr rfl) (fun h Q' hs hq=>?_) ?_)
   ·exact ctd_ok (y:=y) (F:=(ctG (ctM lb la nt tq)).U ()::seatR sb says turn fin::F) (v0:=10) hk hn (by omega) .returning (star_shut (M:=[_,_,_,_]) hs) fun w h' hw=>hq w h' hw
   ·refine at_ret0 Try.func24 Try.results24 hQ (.inl rfl) ⟨(),((k,y.2.2,y.2.2):CtQ),m,rfl,if_neg (by show ¬ y.2.2<y.2.2;omega),fun h st=>?_⟩
    show Star ((ctG (ctM lb la nt tq)).U ()::seatR sb says turn fin::ctM lb la nt tq k (ctV (k,y.2.2,y.2.2))::F) h
    rw [ctM_at hy,show ctV (k,y.2.2,y.2.2)=10+1 from if_neg (by show ¬ y.2.2<y.2.2;omega)]
    exact Ent.star (.take (.there .here) (.take (.there .here) (.take .here .refl))) st
end
end Go.Proofs.Ytabbkjciifnehaa
namespace Go.Proofs.Ytabbkjciifnehaa
open Go Go.PB
attribute [local irreducible] Mo Bin Eql Tr Wo Ap Wle
attribute [local instance] Pass.of_no
section
def RdRowsZ (L:List HProp) (a:Option Addr) (ms:List Nat):Prop:=∀ (k:Nat) m,ms[k]?=some m→∃ b o b',a=some ⟨b,o,none⟩∧Rd L b (o+k) (.slice (some ⟨b',0,none⟩) m m)∧∀ i,i<m→Rds L b' (0+2*i) [.int .u8 0,.int .i64 0]
theorem RdRowsZ.there {L:List HProp} {a:Option Addr} {ms:List Nat} {d:HProp} (h:RdRowsZ L a ms):RdRowsZ (d::L) a ms:=fun k y hy=>by
 obtain ⟨b,o,b',e,r,r2⟩:=h k y hy
 exact ⟨b,o,b',e,.there r,fun i hi j v hj=>.there (r2 i hi j v hj)⟩
section
variable {g:Game}
theorem takeF_full {p:PS g} (h:p.tr.length=16384) (k:Int):takeF p k=(p,false):=by
 rcases takeF_cases p k with e | ⟨_,_,_,_,_,_,_,hn,_⟩
 ·exact e
 ·exact absurd h hn
theorem roundF_full {pr p:PS g} {b:Bool} {k:Nat} (hr:roundF pr k=(p,b)) (h:p.tr.length=16384):∀ d,roundF pr (k+d)=(p,b)
 | 0=>hr
 | d+1=>by
  have ih:=roundF_full hr h d
  show ((takeF (roundF pr (k+d)).1 (k+d:Nat)).1,(takeF (roundF pr (k+d)).1 (k+d:Nat)).2||(roundF pr (k+d)).2)=_
  rw [ih]
  simp only
  rw [takeF_full h];rfl
theorem ordF_bound (p:PS g):∀ (l:List Int),(ordF p l).tr.length≤p.tr.length+l.length:=by
 intro l
 induction l generalizing p with
 | nil=>exact Nat.le_refl _
 | cons k l ih =>
  have h1:=ih (takeF p k).1
  have h2:(takeF p k).1.tr.length≤p.tr.length+1:=by
   rcases takeF_cases p k with e | ⟨_,_,_,_,_,_,_,_,e⟩ <;> rw [e]
   ·exact Nat.le_succ _
   ·simp
  show (ordF (takeF p k).1 l).tr.length≤_
  simp only [List.length_cons]
  omega
theorem neg_take {p:PS g} {k:Int} (h:k<0):takeF p k=(p,false):=by
 unfold takeF
 rw [if_pos h]
theorem big_take {p:PS g} {k:Nat} (h:p.qs.length≤k):takeF p k=(p,false):=by
 unfold takeF
 rw [if_neg (by omega),Int.toNat_natCast,List.getElem?_eq_none_iff.2 h]
end
section
variable {M:Nat→Int→HProp}
def atCc (p:PS (ctG M)):List Value:=(show List CtQ from p.qs).map fun q=>.int .i64 ((q.2.2:Nat):Int)
structure CtI (ms:List Nat) (qs:List CtQ) (tr:List (Nat × (Int × Int))):Prop where
 ql:qs.length=ms.length
 at_:∀ (k:Nat) q,qs[k]?=some q→q.1=k∧ms[k]?=some q.2.1∧q.2.2≤q.2.1
 le:tr.length≤16384
theorem ct_step {ms:List Nat} (p:PS (ctG M)) (k:Int) (h:CtI ms p.qs p.tr):CtI ms (takeF p k).1.qs (takeF p k).1.tr:=by
 refine ⟨?_,?_,takeF_le h.le k⟩
 ·exact Eq.trans (takeF_len ..) h.ql
 ·rcases takeF_cases p k with e | ⟨n,q,m,f,rfl,hq,hp,_,e⟩
  ·rw [e];exact h.at_
  ·rw [e]
   intro j q' hq'
   have hq2:(show List CtQ from p.qs)[n]?=some q:=hq
   have hp2:ctPlan q=some (m,f):=hp
   obtain ⟨h1,h2,h3⟩:=h.at_ n q hq2
   have hn:=(List.getElem?_eq_some_iff.1 hq2).1
   have hq3:(List.set (α:=CtQ) p.qs n (f p.s).2)[j]?=some q':=hq'
   unfold ctPlan at hp2
   split at hp2
   ·rename_i hlt
    cases hp2
    by_cases he:n=j
    ·subst he
     have h9:(List.set (α:=CtQ) p.qs n (q.1,q.2.1,q.2.2+1))[n]?=some (q.1,q.2.1,q.2.2+1):=List.getElem?_set_self hn
     have h10:=h9.symm.trans hq3
     cases h10
     exact ⟨h1,h2,hlt⟩
    ·have h9:(List.set (α:=CtQ) p.qs n (q.1,q.2.1,q.2.2+1))[j]?=(show List CtQ from p.qs)[j]?:=List.getElem?_set_ne he
     exact h.at_ j q' (h9.symm.trans hq3)
   ·cases hp2
theorem ct_take {ms:List Nat} {p:PS (ctG M)} (I:CtI ms p.qs p.tr) {k m:Nat} (hm:ms[k]?=some m) :
  ∃ a,a≤m∧(atCc p)[k]?=some (.int .i64 ((a:Nat):Int))∧((a=m∧takeF p k=(p,false)∧(p.qs[k]?.bind (ctG M).plan).isSome=false)∨(a<m∧(p.qs[k]?.bind (ctG M).plan).isSome=true∧(p.tr.length<16384→(takeF p k).2=true∧(takeF p k).1.tr=p.tr++[(k,(0,0))]∧atCc (takeF p k).1=(atCc p).set k (.int .i64 ((a+1:Nat):Int))))):=by
 have hlt:=(List.getElem?_eq_some_iff.1 hm).1
 have hql:(show List CtQ from p.qs).length=ms.length:=I.ql
 obtain ⟨q,hq⟩:∃ q,(show List CtQ from p.qs)[k]?=some q:=⟨_,List.getElem?_eq_getElem (by omega)⟩
 obtain ⟨e1,e2,e3⟩:=I.at_ k q hq
 rw [hm] at e2
 obtain ⟨q1,m',a⟩:=q
 simp only at e1 e2 e3
 cases e2
 have hqq:p.qs[k]?=some ((q1,m,a):CtQ):=hq
 refine ⟨a,e3,by unfold atCc;rw [List.getElem?_map,hq];rfl,?_⟩
 by_cases h:a<m
 ·right
  have hp:(ctG M).plan ((q1,m,a):CtQ)=some ((0,0),fun s:Unit=>(s,((q1,m,a+1):CtQ))):=if_pos h
  refine ⟨h,by rw [hqq];show ((ctG M).plan ((q1,m,a):CtQ)).isSome=true;rw [hp];rfl,fun ht=>?_⟩
  have hgo:takeF p k=_:=takeF_go (g:=ctG M) (s:=p.s) (qs:=p.qs) (tr:=p.tr) hqq hp (by omega)
  rw [hgo]
  exact ⟨rfl,rfl,List.map_set ..⟩
 ·left
  obtain rfl:a=m:=by omega
  have hp:(ctG M).plan ((q1,a,a):CtQ)=none:=if_neg h
  refine ⟨rfl,?_,by rw [hqq];show ((ctG M).plan ((q1,a,a):CtQ)).isSome=false;rw [hp];rfl⟩
  unfold takeF
  rw [if_neg (by omega),Int.toNat_natCast,hqq]
  simp only [hp]
theorem ct_start:∀ (ts:List (Thr (ctG M))) (ms:List Nat) (j:Nat),((ts.map fun t=>(show Unit→Unit × CtQ from t.ini))=ms.mapIdx fun k m=>ctIni (j+k) m)→∀ s:Unit,(show List CtQ from (startF ts (show (ctG M).σ from s)).2)=ms.mapIdx fun k m=>(j+k,m,0):=by
 intro ts
 induction ts with
 | nil =>
  intro ms j h s
  cases ms with
  | nil=>rfl
  | cons r ms=>rw [List.mapIdx_cons] at h;cases h
 | cons a ts ih =>
  intro ms j h s
  cases ms with
  | nil=>rw [List.mapIdx_nil] at h;cases h
  | cons r ms =>
   rw [List.map_cons,List.mapIdx_cons] at h
   obtain ⟨h1,h2⟩:=List.cons.inj h
   have h1':(show Unit→Unit × CtQ from a.ini)=ctIni (j+0) r:=h1
   have h3:=ih ms (j+1) (by rw [h2];congr 1;funext k row;rw [show j+1+k=j+(k+1) by omega]) ((show Unit→Unit × CtQ from a.ini) s).1
   show ((show Unit→Unit × CtQ from a.ini) s).2::(show List CtQ from (startF ts (show (ctG M).σ from ((show Unit→Unit × CtQ from a.ini) s).1)).2)=_
   rw [List.mapIdx_cons,h3,h1']
   simp only [ctIni,Nat.add_zero,List.cons.injEq,true_and]
   congr 1
   funext k row
   rw [show j+1+k=j+(k+1) by omega]
theorem ct_i0 {ts:List (Thr (ctG M))} {ms:List Nat} (h:(ts.map fun t=>(show Unit→Unit × CtQ from t.ini))=ms.mapIdx fun k m=>ctIni k m):CtI ms (startF ts (show (ctG M).σ from ())).2 []∧(show List CtQ from (startF ts (show (ctG M).σ from ())).2)=ms.mapIdx fun k m=>(k,m,0):=by
 have h1:=ct_start ts ms 0 (by rw [h];congr 1;funext k row;rw [Nat.zero_add]) ()
 simp only [Nat.zero_add] at h1
 refine ⟨⟨?_,fun k q hq=>?_,Nat.zero_le _⟩,h1⟩
 ·exact (congrArg (List.length (α:=CtQ)) h1).trans List.length_mapIdx
 ·have hq':(show List CtQ from (startF ts (show (ctG M).σ from ())).2)[k]?=some q:=hq
  rw [h1,List.getElem?_mapIdx,Option.map_eq_some_iff] at hq'
  obtain ⟨m,h3,rfl⟩:=hq'
  exact ⟨rfl,h3,Nat.zero_le _⟩
end
section
variable {B:Hand} [Lets B] {x:B.X} {L F:List HProp} {M:Nat→Int→HProp}
def rcE (sv:Value) (rb ab pb n:Nat):Env:=[(1,sv),(4,.pointer (some ⟨rb,0,none⟩)),(5,.slice (some ⟨ab,0,none⟩) n n),(6,.pointer (some ⟨pb,0,none⟩))]
def rcL (p:PS (ctG M)) (tv cv:Value) (ab pb:Nat) (L:List HProp):List HProp:=arr pb 0 [tv,cv]::vec 3 tv (trCP p.tr)::arr ab 0 (atCc p)::L
def rc1 (ov sv:Value) (rb ab pb n:Nat) (p0:PS (ctG M)) (o:List Int) (x:B.X) (L:List HProp):PB.Inv (Nat × PS (ctG M) × Value) B.X where
 e:=fun i=>(0,ov)::(7,.int .i64 (i.1:Nat))::rcE sv rb ab pb n
 L:=fun i=>rcL i.2.1 i.2.2 (.slice none 0 0) ab pb L
 x:=fun _=>x
 ok:=fun i=>i.1≤o.length∧i.2.1=ordF p0 (o.take i.1)
def rc2 (sv:Value) (rb ab pb n:Nat) (p1:PS (ctG M)) (ms:List Nat) (x:B.X) (L:List HProp):PB.Inv (Nat × PS (ctG M) × Value × Bool) B.X where
 e:=fun i=>(9,.bool i.2.2.2)::rcE sv rb ab pb n
 L:=fun i=>rcL i.2.1 i.2.2.1 (.slice none 0 0) ab pb L
 x:=fun _=>x
 ok:=fun i=>CtI ms i.2.1.qs i.2.1.tr∧(if i.2.2.2=true then restF i.1 i.2.1=restF 16385 p1∧16384<i.2.1.tr.length+i.1 else i.2.1=restF 16385 p1)
def rc3 (sv:Value) (rb ab pb n:Nat) (p:PS (ctG M)) (x:B.X) (L:List HProp):PB.Inv (Nat × PS (ctG M) × Value × Bool) B.X where
 e:=fun i=>(9,.bool i.2.2.2)::(10,.int .i64 (i.1:Nat))::rcE sv rb ab pb n
 L:=fun i=>rcL i.2.1 i.2.2.1 (.slice none 0 0) ab pb L
 x:=fun _=>x
 ok:=fun i=>i.1≤n∧(i.2.1,i.2.2.2)=roundF p i.1
def rc4 (sv:Value) (rb ab pb n:Nat) (p:PS (ctG M)) (tv:Value) (x:B.X) (L:List HProp):PB.Inv (Nat × Value) B.X where
 e:=fun i=>(11,.int .i64 (i.1:Nat))::rcE sv rb ab pb n
 L:=fun i=>vec 1 i.2 (cutC (cutN (ctG M) p.qs i.1))::rcL p tv i.2 ab pb L
 x:=fun _=>x
 ok:=fun i=>i.1≤n
theorem atCc_len {ms:List Nat} {p:PS (ctG M)} (I:CtI ms p.qs p.tr):(atCc p).length=ms.length:=by
 unfold atCc
 rw [List.length_map]
 exact I.ql
theorem cutN_le {qs:List CtQ} {j:Nat}:(cutN (ctG M) qs j).length≤j:=by
 have:=List.length_filter_le (fun k=>((qs[k]?).bind (ctG M).plan).isSome) (List.range j)
 rw [List.length_range] at this
 exact this
set_option maxHeartbeats 4000000 in
theorem refCut_tr {ts:List (Thr (ctG M))} {ms:List Nat} (hini:(ts.map fun t=>(show Unit→Unit × CtQ from t.ini))=ms.mapIdx fun k m=>ctIni k m) (h1n:1≤ms.length) (h16:ms.length≤16) (hmb:∀ m∈ms,m≤100000) {oa pa:Option Addr} {oc pc:Nat} {o:List Int} (hro:RdsO L oa o.length (ints o)) (hrr:RdRowsZ L pa ms) (hol:o.length≤2000) :
  Tr Try.prog B 15 [.slice oa o.length oc,.slice pa ms.length pc] L x fun v L' x'=>∃ tv cv,v=.agg #[tv,cv]∧L'=vec 3 tv (trCP (playF ts (show (ctG M).σ from ()) o).tr)::vec 1 cv (cutC (cutN (ctG M) (playF ts (show (ctG M).σ from ()) o).qs ms.length))::L∧x'=x:=by
 refine Tr.post (R:=fun v L' x'=>x'=x∧∃ tv cv,v=.agg #[tv,cv]∧∀ h,Star L' h→Star (vec 3 tv (trCP (playF ts (show (ctG M).σ from ()) o).tr)::vec 1 cv (cutC (cutN (ctG M) (playF ts (show (ctG M).σ from ()) o).qs ms.length))::L) h) ?_
  (by rintro v L' x' ⟨rfl,tv,cv,rfl,h2⟩;exact ⟨_,⟨tv,cv,rfl,rfl,rfl⟩,h2⟩)
 obtain ⟨n,hn⟩:∃ n,ms.length=n:=⟨_,rfl⟩
 rw [hn] at h1n h16 ⊢
 obtain ⟨p0,hp0⟩:∃ p:PS (ctG M),p=⟨(startF ts (show (ctG M).σ from ())).1,(startF ts (show (ctG M).σ from ())).2,[]⟩:=⟨_,rfl⟩
 obtain ⟨hI0',hqs⟩:=ct_i0 hini
 have hI0:CtI ms p0.qs p0.tr:=by rw [hp0];exact hI0'
 have ht0:p0.tr=[]:=by rw [hp0]
 have hlp:playF ts (show (ctG M).σ from ()) o=restF 16385 (ordF p0 o):=by rw [hp0];rfl
 have hIord:∀ l,CtI ms (ordF p0 l).qs (ordF p0 l).tr:=fun l=>ordF_inv (I:=fun p:PS (ctG M)=>CtI ms p.qs p.tr) (fun p k h=>ct_step p k h) l p0 hI0
 have ha0:atCc p0=zeros n [.int .i64 0]:=by
  have h2:(show List CtQ from p0.qs)=ms.mapIdx fun k m=>(k,m,0):=by rw [hp0];exact hqs
  unfold atCc
  rw [h2,zeros_rep]
  apply List.ext_getElem?
  intro i
  rw [List.getElem?_map,List.getElem?_mapIdx,List.getElem?_replicate]
  by_cases hi:i<n
  ·rw [if_pos hi,List.getElem?_eq_getElem (by omega)];rfl
  ·rw [if_neg hi,List.getElem?_eq_none_iff.2 (by omega)];rfl
 refine tr_of_body Try.func15 rfl Try.ntmps15 (by simp) fun um Q _ hQ=>?_
 simp only [argE,Nat.zero_add,Nat.reduceAdd]
 repeat (first | (apply wo_mo;apply mo_alloc;exact trivial) | refine we_seq ?_ | (refine wR ?_;try simp only [oS]))
 rintro v' L' ⟨rb,rfl,rfl⟩
 repeat (first | (apply wo_mo;apply mo_make (n:=n);exact rfl;exact rfl;exact rfl;omega;omega;exact trivial) | refine we_seq ?_ | (refine wR ?_;try simp only [oS]) | refine wo_nil ?_ | refine wM ?_ | refine wE ?_)
 rintro v' L' ⟨ab,rfl,rfl⟩
 repeat (first | (apply wo_mo;apply mo_alloc;exact trivial) | refine we_seq ?_ | (refine wR ?_;try simp only [oS]) | refine wo_nil ?_ | refine wA ?_)
 rintro v' L' ⟨pb,rfl,rfl⟩
 repeat (first | refine we_seq ?_ | (refine wR ?_;try simp only [oS]) | refine wo_nil ?_ | refine wA ?_ | refine we_block ?_)
 let LR:List HProp:=arr rb 0 [.slice none 0 0,.slice none 0 0]::L
 refine we_star (rcL p0 (.slice none 0 0) (.slice none 0 0) ab pb LR) (fun h st=>?_) ?_
 ·have s1:Star (arr pb 0 [.slice none 0 0,.slice none 0 0]::arr ab 0 (zeros n [.int .i64 0])::LR) h:=st
  show Star (_::vec 3 (.slice none 0 0) (trCP p0.tr)::arr ab 0 (atCc p0)::LR) h
  rw [ht0,ha0]
  exact Ent.star (.take (.there .here) (.take .here .refl)) (vec_nil (sz:=3) s1)
 have hroR:RdsO LR oa o.length (ints o):=hro.there
 have hrrR:RdRowsZ LR pa ms:=hrr.there
 refine we_loopN (rc1 (.slice oa o.length oc) (.slice pa n pc) rb ab pb n p0 o x LR) (fun i=>o.length-i.1) (0,p0,.slice none 0 0) ⟨Nat.zero_le _,rfl⟩ ⟨rfl,rfl,rfl,rfl,rfl,rfl,trivial⟩ .refl rfl ?_
 rintro ⟨i,p,tv⟩ ⟨hi,hp⟩
 dsimp only at hi hp
 have hI:CtI ms p.qs p.tr:=by rw [hp];exact hIord _
 have hpt:=hI.le
 have hpi:p.tr.length≤i:=by
  have:=ordF_bound p0 (o.take i)
  rw [← hp,ht0,List.length_take] at this
  simp only [List.length_nil] at this
  omega
 have hal:=atCc_len hI
 simp only [rc1,rcE,rcL]
 refine we_pure (of_has (.there .here) (vec_shape (by omega))) ?_
 rintro ⟨va,vn,vc,rfl,hvn,_⟩
 obtain rfl:vn=p.tr.length:=by rw [trCP_len] at hvn;omega
 have w1:Rd (arr pb 0 [.slice va p.tr.length vc,.slice none 0 0]::vec 3 (.slice va p.tr.length vc) (trCP p.tr)::arr ab 0 (atCc p)::LR) pb 0 (.slice va p.tr.length vc):=.row0 rfl
 by_cases hlt:i<o.length
 ·obtain ⟨kk,hkk⟩:∃ k,o[i]?=some k:=⟨o[i],List.getElem?_eq_getElem hlt⟩
  obtain ⟨ob,oo,rfl,hrd⟩:=hroR.rds (by omega)
  have ho:Rd (arr pb 0 [.slice va p.tr.length vc,.slice none 0 0]::vec 3 (.slice va p.tr.length vc) (trCP p.tr)::arr ab 0 (atCc p)::LR) ob (oo+i) (.int .i64 kk):=.there (.there (.there (hrd i _ (by rw [List.getElem?_map,hkk];rfl))))
  have hsn:ordF p0 (o.take (i+1))=(takeF p kk).1:=by rw [List.take_add_one,hkk,hp];exact ordF_snoc _ _ _
  have hinc:IntKind.i64.wrap (((i:Nat):Int)+1)=((i+1:Nat):Int):=(wrap_i64 (by omega) (by omega)).trans (by omega)
  repeat (first | (apply wo_po;apply mo_load;exact rfl;(first | exact w1 | exact ho);exact gY) | (apply wo_po;apply mo_index1;exact rfl;exact rfl;omega;exact gY) | refine wlssT ?_ | refine we_seq ?_ | (refine wR ?_;try simp only [oS]) | refine wo_nil ?_ | refine wM ?_ | refine wA ?_ | refine wK ?_ | refine wD ?_ | refine wE ?_ | refine wT ?_ | refine we_skip ?_ | refine we_block ?_)
  by_cases hk0:kk<0
  ·have hno:=neg_take (p:=p) hk0
   rw [hno] at hsn
   refine we_draw (List.range' 0 20) (by kernel_rfl) ?_
   repeat (first | (apply ap_pure;exact rfl;exact rfl;exact gY;intro L;apply mo_bin;exact rfl;exact rfl;(first | exact bin_lssT (by omega) | exact bin_lssF (by omega) | exact bin_geqT (by omega) | exact bin_geqF (by omega))) | refine aM ?_ | (apply ap_no;exact rfl;exact rfl;exact rfl;exact rfl) | (apply ap_pure;exact rfl;exact rfl;exact gY;intro L;apply mo_pickF;exact rfl;exact rfl;exact rfl) | refine ap_end ?_)
   repeat (first | (apply wo_po;apply mo_bin;exact rfl;exact rfl;apply bin_add;exact hinc;exact trivial) | (refine wR ?_;try simp only [oS]) | refine wo_nil ?_ | refine wM ?_ | refine wA ?_ | refine wF ?_ | refine we_skip ?_)
   refine at_round (I:=rc1 (.slice (some ⟨ob,oo,none⟩) o.length oc) (.slice pa n pc) rb ab pb n p0 o x LR) (R:=fun j=>o.length-j.1<o.length-i) (i+1,p,.slice va p.tr.length vc) (by show o.length-(i+1)<o.length-i;omega) ⟨by show i+1≤o.length;omega,by show p=ordF p0 (o.take (i+1));rw [hsn]⟩ ⟨rfl,rfl,rfl,rfl,rfl,rfl,trivial⟩ .refl rfl
  obtain ⟨k,rfl⟩:∃ k:Nat,kk=k:=⟨kk.toNat,by omega⟩
  by_cases hkn:k<n
  ·have hkP:k<ms.length:=by omega
   obtain ⟨m,hm⟩:∃ m,ms[k]?=some m:=⟨ms[k],List.getElem?_eq_getElem (by omega)⟩
   obtain ⟨sb,so,hb,rfl,hsd,hmd⟩:=hrrR k m hm
   obtain ⟨a,ha1,ha2,hcase⟩:=ct_take hI hm
   have hm0:=hmb m (List.mem_of_getElem? hm)
   have w2:Rd (arr pb 0 [.slice va p.tr.length vc,.slice none 0 0]::vec 3 (.slice va p.tr.length vc) (trCP p.tr)::arr ab 0 (atCc p)::LR) sb (so+k) (.slice (some ⟨hb,0,none⟩) m m):=.there (.there (.there hsd))
   have w3:Rd (arr pb 0 [.slice va p.tr.length vc,.slice none 0 0]::vec 3 (.slice va p.tr.length vc) (trCP p.tr)::arr ab 0 (atCc p)::LR) ab (0+k) (.int .i64 ((a:Nat):Int)):=.there (.there (Rd.row ha2 rfl))
   rcases hcase with ⟨hae,hno,_⟩ | ⟨hal2,_,hgo⟩
   ·subst hae
    refine we_draw (List.range' 0 20) (by kernel_rfl) ?_
    repeat (first | (apply ap_read;exact rfl;exact rfl;exact gY;apply mo_load;exact rfl;(first | exact w2 | exact w3)) | (apply ap_pure;exact rfl;exact rfl;exact gY;intro L;apply mo_index1;exact rfl;exact rfl;omega) | (apply ap_pure;exact rfl;exact rfl;exact gY;intro L;apply mo_bin;exact rfl;exact rfl;(first | exact bin_lssT (by omega) | exact bin_lssF (by omega) | exact bin_geqT (by omega) | exact bin_geqF (by omega))) | refine aM ?_ | (apply ap_pure;exact rfl;exact rfl;exact gY;intro L;apply mo_pickT;exact rfl;exact rfl;exact rfl) | (apply ap_pure;exact rfl;exact rfl;exact gY;intro L;apply mo_len;exact rfl) | refine ap_end ?_)
    repeat (first | (apply wo_po;apply mo_bin;exact rfl;exact rfl;apply bin_add;exact hinc;exact trivial) | (refine wR ?_;try simp only [oS]) | refine wo_nil ?_ | refine wM ?_ | refine wA ?_ | refine wF ?_ | refine we_skip ?_)
    refine at_round (I:=rc1 (.slice (some ⟨ob,oo,none⟩) o.length oc) (.slice (some ⟨sb,so,none⟩) n pc) rb ab pb n p0 o x LR) (R:=fun j=>o.length-j.1<o.length-i) (i+1,p,.slice va p.tr.length vc) (by show o.length-(i+1)<o.length-i;omega) ⟨by show i+1≤o.length;omega,by show p=ordF p0 (o.take (i+1));rw [hsn,hno]⟩ ⟨rfl,rfl,rfl,rfl,rfl,rfl,trivial⟩ .refl rfl
   ·obtain ⟨hfl,htr2,hat2⟩:=hgo (by omega)
    refine we_draw (List.range' 0 20) (by kernel_rfl) ?_
    repeat (first | (apply ap_read;exact rfl;exact rfl;exact gY;apply mo_load;exact rfl;(first | exact w2 | exact w3)) | (apply ap_pure;exact rfl;exact rfl;exact gY;intro L;apply mo_index1;exact rfl;exact rfl;omega) | (apply ap_pure;exact rfl;exact rfl;exact gY;intro L;apply mo_bin;exact rfl;exact rfl;(first | exact bin_lssT (by omega) | exact bin_lssF (by omega) | exact bin_geqT (by omega) | exact bin_geqF (by omega))) | refine aM ?_ | (apply ap_pure;exact rfl;exact rfl;exact gY;intro L;apply mo_pickT;exact rfl;exact rfl;exact rfl) | (apply ap_pure;exact rfl;exact rfl;exact gY;intro L;apply mo_len;exact rfl) | refine ap_end ?_)
    repeat (first | refine we_seq ?_ | refine wT ?_)
    have w4:Rds (arr pb 0 [.slice va p.tr.length vc,.slice none 0 0]::vec 3 (.slice va p.tr.length vc) (trCP p.tr)::arr ab 0 (atCc p)::LR) hb (0+2*a) [.int .u8 0,.int .i64 0]:=fun j v hj=>.there (.there (.there (hmd a hal2 j v hj)))
    refine we_draw (List.range' 0 18) (by kernel_rfl) ?_
    repeat (first | (apply ap_read;exact rfl;exact rfl;exact trivial;apply mo_load;exact rfl;(first | exact w1 | exact w2 | exact w3)) | (apply ap_read;exact rfl;exact rfl;exact trivial;apply mo_loadA (vs:=[.int .u8 0,.int .i64 0]);exact rfl;exact rfl;exact w4) | (apply ap_pure;exact rfl;exact rfl;exact trivial;intro L;apply mo_index1;exact rfl;exact rfl;omega) | (apply ap_pure;exact rfl;exact rfl;exact trivial;intro L;apply mo_indexAddr (r:=0+2*a);exact rfl;exact rfl;omega;omega;omega) | (apply ap_pure;exact rfl;exact rfl;exact trivial;intro L;apply mo_build (pv:=[(0,_),(1,_)]);exact rfl;exact .cons rfl (.cons rfl .nil);exact rfl) | refine aM ?_ | refine aD ?_)
    refine ap_loudR rfl rfl rfl rfl trivial (mo_buildSlice (sz:=3) (vs:=[.agg #[.int .i64 (k:Nat),.int .u8 0,.int .i64 0]]) rfl (.cons rfl .nil) rfl (by intro v hv;cases (List.mem_singleton.1 hv);exact rfl) (by omega)) ?_ ?_
    ·rintro v L ⟨nb,rfl,rfl⟩ p hp
     replace hp:=(List.mem_filter.1 hp).1
     simp only [List.mem_cons,List.not_mem_nil,or_false] at hp
     repeat (rcases hp with rfl | hp;· first | exact .inl rfl | exact .inr ⟨_,rfl,trivial,mo_load rfl (Rd.there (by first | exact w1 | exact w2 | exact w3))⟩ | exact .inr ⟨_,rfl,trivial,mo_loadA rfl rfl (fun j v hj=>Rd.there (w4 j v hj))⟩)
     first | done | (rcases hp with rfl;first | exact .inl rfl | exact .inr ⟨_,rfl,trivial,mo_load rfl (Rd.there (by first | exact w1 | exact w2 | exact w3))⟩ | exact .inr ⟨_,rfl,trivial,mo_loadA rfl rfl (fun j v hj=>Rd.there (w4 j v hj))⟩)
    rintro v' L' ⟨nb,rfl,rfl⟩
    refine ap_loud rfl rfl rfl rfl rfl trivial (mo_append (sz:=3) (new:=[.int .i64 (k:Nat),.int .u8 0,.int .i64 0]) rfl rfl rfl rfl (.there (.there .here)) rfl (.inr ⟨_,_,rfl,Rds.all .here⟩) (by intro v hv;simp at hv;rcases hv with rfl | rfl | rfl <;> rfl) (by simp only [sliceLen];omega)) ?_
    rintro v' L' rfl
    refine ap_know (of_has .here (vec_shape (by omega))) ?_
    rintro ⟨ua,un,uc,rfl,_⟩
    repeat (first | refine aD ?_)
    refine ap_loud rfl rfl rfl rfl rfl trivial (mo_store rfl rfl rfl (Wt.row (k:=0) (o:=0) (vs:=[.slice va p.tr.length vc,.slice none 0 0]) (by show 0<2;omega) rfl (.there (.there .here)))) ?_
    rintro v' L' ⟨rfl,rfl⟩
    repeat (first | refine ap_end ?_)
    have w5:∀ {d1 d2 d3:HProp},Rd (d1::d2::d3::arr ab 0 (atCc p)::LR) ab (0+k) (.int .i64 ((a:Nat):Int)):=.there (.there (.there (Rd.row ha2 rfl)))
    have hadd:IntKind.i64.wrap (((a:Nat):Int)+1)=((a+1:Nat):Int):=(wrap_i64 (by omega) (by omega)).trans (by omega)
    repeat (first | (apply wo_po;apply mo_index1;exact rfl;exact rfl;omega;exact trivial) | (apply wo_po;apply mo_load;exact rfl;exact w5;exact trivial) | (apply wo_po;apply mo_bin;exact rfl;exact rfl;apply bin_add;(first | exact hadd | exact hinc);exact trivial) | (apply wo_pm;apply mo_store;exact rfl;exact rfl;exact rfl;exact Wt.row (k:=k) (o:=0) (vs:=atCc p) (by omega) rfl (.there (.there (.there .here)));exact trivial) | (refine wR ?_;try simp only [oS]) | refine wo_nil ?_ | refine wM ?_ | refine wA ?_)
    refine at_round (I:=rc1 (.slice (some ⟨ob,oo,none⟩) o.length oc) (.slice (some ⟨sb,so,none⟩) n pc) rb ab pb n p0 o x LR) (R:=fun j=>o.length-j.1<o.length-i) (i+1,(takeF p ((k:Nat):Int)).1,.slice ua un uc) (by show o.length-(i+1)<o.length-i;omega) ⟨by show i+1≤o.length;omega,by show (takeF p ((k:Nat):Int)).1=ordF p0 (o.take (i+1));rw [hsn]⟩ ⟨rfl,rfl,rfl,rfl,rfl,rfl,trivial⟩ ?_ rfl
    show Ent _ (arr pb 0 [.slice ua un uc,.slice none 0 0]::vec 3 (.slice ua un uc) (trCP (takeF p ((k:Nat):Int)).1.tr)::arr ab 0 (atCc (takeF p ((k:Nat):Int)).1)::LR)
    rw [htr2,trCP_app,hat2]
    exact (.take (.there (.there .here)) (.take .here (.drop (.take .here .refl))))
  ·have hno:=big_take (p:=p) (k:=k) (by have:p.qs.length=ms.length:=hI.ql;omega)
   refine we_draw (List.range' 0 20) (by kernel_rfl) ?_
   repeat (first | (apply ap_pure;exact rfl;exact rfl;exact gY;intro L;apply mo_bin;exact rfl;exact rfl;(first | exact bin_lssT (by omega) | exact bin_lssF (by omega) | exact bin_geqT (by omega) | exact bin_geqF (by omega))) | refine aM ?_ | (apply ap_no;exact rfl;exact rfl;exact rfl;exact rfl) | (apply ap_pure;exact rfl;exact rfl;exact gY;intro L;apply mo_pickT;exact rfl;exact rfl;exact rfl) | (apply ap_pure;exact rfl;exact rfl;exact gY;intro L;apply mo_pickF;exact rfl;exact rfl;exact rfl) | (apply ap_pure;exact rfl;exact rfl;exact gY;intro L;apply mo_len;exact rfl) | refine ap_end ?_)
   repeat (first | (apply wo_po;apply mo_bin;exact rfl;exact rfl;apply bin_add;exact hinc;exact trivial) | (refine wR ?_;try simp only [oS]) | refine wo_nil ?_ | refine wM ?_ | refine wA ?_ | refine wF ?_ | refine we_skip ?_)
   refine at_round (I:=rc1 (.slice (some ⟨ob,oo,none⟩) o.length oc) (.slice pa n pc) rb ab pb n p0 o x LR) (R:=fun j=>o.length-j.1<o.length-i) (i+1,p,.slice va p.tr.length vc) (by show o.length-(i+1)<o.length-i;omega) ⟨by show i+1≤o.length;omega,by show p=ordF p0 (o.take (i+1));rw [hsn,hno]⟩ ⟨rfl,rfl,rfl,rfl,rfl,rfl,trivial⟩ .refl rfl
 ·obtain rfl:i=o.length:=by omega
  rw [List.take_length] at hp
  rw [← hp] at hlp
  repeat (first | refine wlssF ?_ | refine we_seq ?_ | (refine wR ?_;try simp only [oS]) | refine wo_nil ?_ | refine wM ?_ | refine wA ?_ | (apply wo_no;exact rfl) | refine wJ ?_ | refine wE ?_ | refine wF ?_ | refine we_block ?_ | refine we_exit ?_)
  obtain ⟨p1,hp1⟩:∃ p1,p=p1:=⟨_,rfl⟩
  rw [hp1] at hlp
  refine we_loopN (rc2 (.slice pa n pc) rb ab pb n p1 ms x LR) (fun i=>if i.2.2.2=true then i.1+1 else 0) (16385,p,.slice va p.tr.length vc,true) ⟨hI,by show restF 16385 p=restF 16385 p1∧16384<p.tr.length+16385;exact ⟨by rw [hp1],by omega⟩⟩ ⟨rfl,rfl,rfl,rfl,rfl,trivial⟩ .refl rfl ?_
  clear w1 hI hpt hal hp hp1 hvn hpi
  rintro ⟨f,pr,tv,more⟩ ⟨hIr,hq⟩
  dsimp only at hIr hq
  have hprt:=hIr.le
  simp only [rc2,rcE,rcL]
  cases more with
  | true =>
   simp only [if_true] at hq
   obtain ⟨hq1,hq2⟩:=hq
   obtain ⟨f,rfl⟩:∃ f',f=f'+1:=⟨f-1,by omega⟩
   have hqn:pr.qs.length=n:=by have:pr.qs.length=ms.length:=hIr.ql;omega
   repeat (first | refine we_seq ?_ | (refine wR ?_;try simp only [oS]) | refine wo_nil ?_ | refine wM ?_ | refine wA ?_ | refine wT ?_ | refine we_skip ?_ | refine we_block ?_)
   refine we_loopN (rc3 (.slice pa n pc) rb ab pb n pr x LR) (fun i=>n-i.1) (0,pr,tv,false) ⟨Nat.zero_le _,rfl⟩ ⟨rfl,rfl,rfl,rfl,rfl,rfl,trivial⟩ .refl rfl ?_
   clear tv
   rintro ⟨k,p,tv,b⟩ ⟨hk,hr⟩
   dsimp only at hk hr
   have hrp:(roundF pr k).1=p:=by rw [← hr]
   have hrb:(roundF pr k).2=b:=by rw [← hr]
   have hI:CtI ms p.qs p.tr:=by rw [← hrp];exact roundF_inv (I:=fun p:PS (ctG M)=>CtI ms p.qs p.tr) (fun p k h=>ct_step p k h) hIr k
   have hpt:=hI.le
   have hal:=atCc_len hI
   have hinc:IntKind.i64.wrap (((k:Nat):Int)+1)=((k+1:Nat):Int):=(wrap_i64 (by omega) (by omega)).trans (by omega)
   simp only [rc3,rcE,rcL]
   refine we_pure (of_has (.there .here) (vec_shape (by omega))) ?_
   rintro ⟨va,vn,vc,rfl,hvn,_⟩
   obtain rfl:vn=p.tr.length:=by rw [trCP_len] at hvn;omega
   have w1:Rd (arr pb 0 [.slice va p.tr.length vc,.slice none 0 0]::vec 3 (.slice va p.tr.length vc) (trCP p.tr)::arr ab 0 (atCc p)::LR) pb 0 (.slice va p.tr.length vc):=.row0 rfl
   by_cases hkn:k<n
   ·by_cases hful:p.tr.length<16384
    ·have hkP:k<ms.length:=by omega
     obtain ⟨m,hm⟩:∃ m,ms[k]?=some m:=⟨ms[k],List.getElem?_eq_getElem (by omega)⟩
     obtain ⟨sb,so,hb,rfl,hsd,hmd⟩:=hrrR k m hm
     obtain ⟨a,ha1,ha2,hcase⟩:=ct_take hI hm
     have hm0:=hmb m (List.mem_of_getElem? hm)
     have w2:Rd (arr pb 0 [.slice va p.tr.length vc,.slice none 0 0]::vec 3 (.slice va p.tr.length vc) (trCP p.tr)::arr ab 0 (atCc p)::LR) sb (so+k) (.slice (some ⟨hb,0,none⟩) m m):=.there (.there (.there hsd))
     have w3:Rd (arr pb 0 [.slice va p.tr.length vc,.slice none 0 0]::vec 3 (.slice va p.tr.length vc) (trCP p.tr)::arr ab 0 (atCc p)::LR) ab (0+k) (.int .i64 ((a:Nat):Int)):=.there (.there (Rd.row ha2 rfl))
     have hsucc:roundF pr (k+1)=((takeF p ((k:Nat):Int)).1,(takeF p ((k:Nat):Int)).2||b):=by
      show ((takeF (roundF pr k).1 k).1,(takeF (roundF pr k).1 k).2||(roundF pr k).2)=_
      rw [hrp,hrb]
     repeat (first | (apply wo_po;apply mo_load;exact rfl;exact w1;exact gY) | refine wlssT ?_ | refine we_seq ?_ | (refine wR ?_;try simp only [oS]) | refine wo_nil ?_ | refine wM ?_ | refine wK ?_ | refine wD ?_ | refine wE ?_ | refine wT ?_ | refine we_skip ?_ | refine we_block ?_)
     rcases hcase with ⟨hae,hno,_⟩ | ⟨hal2,_,hgo⟩
     ·subst hae
      refine we_draw (List.range' 0 10) (by kernel_rfl) ?_
      repeat (first | (apply ap_read;exact rfl;exact rfl;exact gY;apply mo_load;exact rfl;(first | exact w2 | exact w3)) | (apply ap_pure;exact rfl;exact rfl;exact gY;intro L;apply mo_index1;exact rfl;exact rfl;omega) | (apply ap_pure;exact rfl;exact rfl;exact gY;intro L;apply mo_bin;exact rfl;exact rfl;(first | exact bin_lssT (by omega) | exact bin_lssF (by omega) | exact bin_geqT (by omega) | exact bin_geqF (by omega))) | refine aM ?_ | (apply ap_pure;exact rfl;exact rfl;exact gY;intro L;apply mo_len;exact rfl) | refine ap_end ?_)
      repeat (first | (apply wo_po;apply mo_bin;exact rfl;exact rfl;apply bin_add;exact hinc;exact trivial) | (refine wR ?_;try simp only [oS]) | refine wo_nil ?_ | refine wM ?_ | refine wA ?_ | refine wF ?_ | refine we_skip ?_)
      refine at_round (I:=rc3 (.slice (some ⟨sb,so,none⟩) n pc) rb ab pb n pr x LR) (R:=fun j=>n-j.1<n-k) (k+1,p,.slice va p.tr.length vc,b) (by show n-(k+1)<n-k;omega) ⟨by show k+1≤n;omega,by show (p,b)=roundF pr (k+1);rw [hsucc,hno];rfl⟩ ⟨rfl,rfl,rfl,rfl,rfl,rfl,trivial⟩ .refl rfl
     ·obtain ⟨hfl,htr2,hat2⟩:=hgo hful
      refine we_draw (List.range' 0 10) (by kernel_rfl) ?_
      repeat (first | (apply ap_read;exact rfl;exact rfl;exact gY;apply mo_load;exact rfl;(first | exact w2 | exact w3)) | (apply ap_pure;exact rfl;exact rfl;exact gY;intro L;apply mo_index1;exact rfl;exact rfl;omega) | (apply ap_pure;exact rfl;exact rfl;exact gY;intro L;apply mo_bin;exact rfl;exact rfl;(first | exact bin_lssT (by omega) | exact bin_lssF (by omega) | exact bin_geqT (by omega) | exact bin_geqF (by omega))) | refine aM ?_ | (apply ap_pure;exact rfl;exact rfl;exact gY;intro L;apply mo_len;exact rfl) | refine ap_end ?_)
      repeat (first | refine we_seq ?_ | refine wT ?_)
      have w4:Rds (arr pb 0 [.slice va p.tr.length vc,.slice none 0 0]::vec 3 (.slice va p.tr.length vc) (trCP p.tr)::arr ab 0 (atCc p)::LR) hb (0+2*a) [.int .u8 0,.int .i64 0]:=fun j v hj=>.there (.there (.there (hmd a hal2 j v hj)))
      refine we_draw (List.range' 0 18) (by kernel_rfl) ?_
      repeat (first | (apply ap_read;exact rfl;exact rfl;exact trivial;apply mo_load;exact rfl;(first | exact w1 | exact w2 | exact w3)) | (apply ap_read;exact rfl;exact rfl;exact trivial;apply mo_loadA (vs:=[.int .u8 0,.int .i64 0]);exact rfl;exact rfl;exact w4) | (apply ap_pure;exact rfl;exact rfl;exact trivial;intro L;apply mo_index1;exact rfl;exact rfl;omega) | (apply ap_pure;exact rfl;exact rfl;exact trivial;intro L;apply mo_indexAddr (r:=0+2*a);exact rfl;exact rfl;omega;omega;omega) | (apply ap_pure;exact rfl;exact rfl;exact trivial;intro L;apply mo_build (pv:=[(0,_),(1,_)]);exact rfl;exact .cons rfl (.cons rfl .nil);exact rfl) | refine aM ?_ | refine aD ?_)
      refine ap_loudR rfl rfl rfl rfl trivial (mo_buildSlice (sz:=3) (vs:=[.agg #[.int .i64 (k:Nat),.int .u8 0,.int .i64 0]]) rfl (.cons rfl .nil) rfl (by intro v hv;cases (List.mem_singleton.1 hv);exact rfl) (by omega)) ?_ ?_
      ·rintro v L ⟨nb,rfl,rfl⟩ p hp
       replace hp:=(List.mem_filter.1 hp).1
       simp only [List.mem_cons,List.not_mem_nil,or_false] at hp
       repeat (rcases hp with rfl | hp;· first | exact .inl rfl | exact .inr ⟨_,rfl,trivial,mo_load rfl (Rd.there (by first | exact w1 | exact w2 | exact w3))⟩ | exact .inr ⟨_,rfl,trivial,mo_loadA rfl rfl (fun j v hj=>Rd.there (w4 j v hj))⟩)
       first | done | (rcases hp with rfl;first | exact .inl rfl | exact .inr ⟨_,rfl,trivial,mo_load rfl (Rd.there (by first | exact w1 | exact w2 | exact w3))⟩ | exact .inr ⟨_,rfl,trivial,mo_loadA rfl rfl (fun j v hj=>Rd.there (w4 j v hj))⟩)
      rintro v' L' ⟨nb,rfl,rfl⟩
      refine ap_loud rfl rfl rfl rfl rfl trivial (mo_append (sz:=3) (new:=[.int .i64 (k:Nat),.int .u8 0,.int .i64 0]) rfl rfl rfl rfl (.there (.there .here)) rfl (.inr ⟨_,_,rfl,Rds.all .here⟩) (by intro v hv;simp at hv;rcases hv with rfl | rfl | rfl <;> rfl) (by simp only [sliceLen];omega)) ?_
      rintro v' L' rfl
      refine ap_know (of_has .here (vec_shape (by omega))) ?_
      rintro ⟨ua,un,uc,rfl,_⟩
      repeat (first | refine aD ?_)
      refine ap_loud rfl rfl rfl rfl rfl trivial (mo_store rfl rfl rfl (Wt.row (k:=0) (o:=0) (vs:=[.slice va p.tr.length vc,.slice none 0 0]) (by show 0<2;omega) rfl (.there (.there .here)))) ?_
      rintro v' L' ⟨rfl,rfl⟩
      repeat (first | refine ap_end ?_)
      have w5:∀ {d1 d2 d3:HProp},Rd (d1::d2::d3::arr ab 0 (atCc p)::LR) ab (0+k) (.int .i64 ((a:Nat):Int)):=.there (.there (.there (Rd.row ha2 rfl)))
      have hadd:IntKind.i64.wrap (((a:Nat):Int)+1)=((a+1:Nat):Int):=(wrap_i64 (by omega) (by omega)).trans (by omega)
      repeat (first | (apply wo_po;apply mo_index1;exact rfl;exact rfl;omega;exact trivial) | (apply wo_po;apply mo_load;exact rfl;exact w5;exact trivial) | (apply wo_po;apply mo_bin;exact rfl;exact rfl;apply bin_add;(first | exact hadd | exact hinc);exact trivial) | (apply wo_pm;apply mo_store;exact rfl;exact rfl;exact rfl;exact Wt.row (k:=k) (o:=0) (vs:=atCc p) (by omega) rfl (.there (.there (.there .here)));exact trivial) | refine we_seq ?_ | (refine wR ?_;try simp only [oS]) | refine wo_nil ?_ | refine wM ?_ | refine wA ?_)
      refine at_round (I:=rc3 (.slice (some ⟨sb,so,none⟩) n pc) rb ab pb n pr x LR) (R:=fun j=>n-j.1<n-k) (k+1,(takeF p ((k:Nat):Int)).1,.slice ua un uc,true) (by show n-(k+1)<n-k;omega) ⟨by show k+1≤n;omega,by show ((takeF p ((k:Nat):Int)).1,true)=roundF pr (k+1);rw [hsucc,hfl];rfl⟩ ⟨rfl,rfl,rfl,rfl,rfl,rfl,trivial⟩ ?_ rfl
      show Ent _ (arr pb 0 [.slice ua un uc,.slice none 0 0]::vec 3 (.slice ua un uc) (trCP (takeF p ((k:Nat):Int)).1.tr)::arr ab 0 (atCc (takeF p ((k:Nat):Int)).1)::LR)
      rw [htr2,trCP_app,hat2]
      exact (.take (.there (.there .here)) (.take .here (.drop (.take .here .refl))))
    ·have hrn:roundF pr n=(p,b):=by
      have:=roundF_full hr.symm (by omega) (n-k)
      rwa [show k+(n-k)=n by omega] at this
     have hful2:p.tr.length=16384:=by omega
     have hg:=roundF_grow pr n
     rw [hrn] at hg
     have hrest:restF (f+1) pr=if b=true then restF f p else p:=by
      show (if (roundF pr pr.qs.length).2=true then restF f (roundF pr pr.qs.length).1 else (roundF pr pr.qs.length).1)=_
      rw [hqn,hrn]
     rw [hrest] at hq1
     repeat (first | (apply wo_po;apply mo_load;exact rfl;exact w1;exact gY) | refine wlssT ?_ | refine wlssF ?_ | refine we_seq ?_ | (refine wR ?_;try simp only [oS]) | refine wo_nil ?_ | refine wM ?_ | refine wK ?_ | refine wD ?_ | refine wE ?_ | refine wF ?_ | refine we_exit ?_)
     refine at_round (I:=rc2 (.slice pa n pc) rb ab pb n p1 ms x LR) (R:=fun i=>(if i.2.2.2=true then i.1+1 else 0)<f+1+1) (f,p,.slice va p.tr.length vc,b) ?_ ⟨hI,?_⟩ ⟨rfl,rfl,rfl,rfl,rfl,trivial⟩ .refl rfl
     ·show (if b=true then f+1 else 0)<f+1+1
      split <;> omega
     ·show if b=true then restF f p=restF 16385 p1∧16384<p.tr.length+f else p=restF 16385 p1
      cases b with
      | true=>simp only [if_true] at hq1 hg ⊢;exact ⟨hq1,by omega⟩
      | false=>simpa using hq1
   ·obtain rfl:k=n:=by omega
    have hrn:roundF pr k=(p,b):=hr.symm
    have hg:=roundF_grow pr k
    rw [hrn] at hg
    have hrest:restF (f+1) pr=if b=true then restF f p else p:=by
     show (if (roundF pr pr.qs.length).2=true then restF f (roundF pr pr.qs.length).1 else (roundF pr pr.qs.length).1)=_
     rw [hqn,hrn]
    rw [hrest] at hq1
    repeat (first | refine wlssF ?_ | refine we_seq ?_ | (refine wR ?_;try simp only [oS]) | refine wo_nil ?_ | refine wM ?_ | (apply wo_no;exact rfl) | refine wJ ?_ | refine wE ?_ | refine wF ?_ | refine we_exit ?_)
    refine at_round (I:=rc2 (.slice pa k pc) rb ab pb k p1 ms x LR) (R:=fun i=>(if i.2.2.2=true then i.1+1 else 0)<f+1+1) (f,p,.slice va p.tr.length vc,b) ?_ ⟨hI,?_⟩ ⟨rfl,rfl,rfl,rfl,rfl,trivial⟩ .refl rfl
    ·show (if b=true then f+1 else 0)<f+1+1
     split <;> omega
    ·show if b=true then restF f p=restF 16385 p1∧16384<p.tr.length+f else p=restF 16385 p1
     cases b with
     | true=>simp only [if_true] at hq1 hg ⊢;exact ⟨hq1,by omega⟩
     | false=>simpa using hq1
  | false =>
   simp only [Bool.false_eq_true,if_false] at hq
   have hlq:playF ts (show (ctG M).σ from ()) o=pr:=by rw [hlp,hq]
   rw [hlq] at hQ
   clear hq hIord hI0 ht0 ha0 hlp
   obtain ⟨p,hpp⟩:∃ p,pr=p:=⟨_,rfl⟩
   rw [hpp] at hIr hprt hQ ⊢
   clear hlq hpp pr
   have hI:=hIr
   have hpt:=hprt
   have hal:=atCc_len hI
   refine we_pure (of_has (.there .here) (vec_shape (by omega))) ?_
   rintro ⟨va,vn,vc,rfl,hvn,_⟩
   obtain rfl:vn=p.tr.length:=by rw [trCP_len] at hvn;omega
   repeat (first | refine we_seq ?_ | (refine wR ?_;try simp only [oS]) | refine wo_nil ?_ | refine wM ?_ | refine wA ?_ | refine wF ?_ | refine we_block ?_ | refine we_exit ?_)
   refine we_star ((rc4 (.slice pa n pc) rb ab pb n p (.slice va p.tr.length vc) x LR).L (0,.slice none 0 0)) (fun h st=>vec_nil st) ?_
   refine we_loopN (rc4 (.slice pa n pc) rb ab pb n p (.slice va p.tr.length vc) x LR) (fun i=>n-i.1) (0,.slice none 0 0) (Nat.zero_le _) ⟨rfl,rfl,rfl,rfl,rfl,trivial⟩ .refl rfl ?_
   rintro ⟨k,cv⟩ hk
   replace hk:k≤n:=hk
   have hinc:IntKind.i64.wrap (((k:Nat):Int)+1)=((k+1:Nat):Int):=(wrap_i64 (by omega) (by omega)).trans (by omega)
   simp only [rc4,rcE,rcL]
   refine we_pure (of_has .here (vec_shape (by omega))) ?_
   rintro ⟨ca,cn,cc,rfl,hcn,_⟩
   have hcl:=cutN_le (M:=M) (qs:=p.qs) (j:=k)
   have hcn2:cn=(cutN (ctG M) p.qs k).length:=by simp [cutC] at hcn;omega
   by_cases hkn:k<n
   ·obtain ⟨m,hm⟩:∃ m,ms[k]?=some m:=⟨ms[k],List.getElem?_eq_getElem (by omega)⟩
    obtain ⟨sb,so,hb,rfl,hsd,hmd⟩:=hrrR k m hm
    obtain ⟨a,ha1,ha2,hcase⟩:=ct_take hI hm
    have w2:∀ {d1 d2 d3 d4:HProp},Rd (d1::d2::d3::d4::LR) sb (so+k) (.slice (some ⟨hb,0,none⟩) m m):=.there (.there (.there (.there hsd)))
    have w3:∀ {d1 d2 d3:HProp},Rd (d1::d2::d3::arr ab 0 (atCc p)::LR) ab (0+k) (.int .i64 ((a:Nat):Int)):=.there (.there (.there (Rd.row ha2 rfl)))
    have w6:∀ {d1:HProp} {N:List HProp},Rd (d1::arr pb 0 [.slice va p.tr.length vc,.slice ca cn cc]::N) pb (0+1) (.slice ca cn cc):=.there (Rd.row (k:=1) rfl rfl)
    rcases hcase with ⟨hae,_,hno⟩ | ⟨hal2,hyes,_⟩
    ·subst hae
     repeat (first | refine wlssT ?_ | refine we_seq ?_ | (refine wR ?_;try simp only [oS]) | refine wo_nil ?_ | refine wM ?_ | refine wE ?_ | refine wT ?_ | refine we_skip ?_ | refine we_block ?_)
     refine we_draw (List.range' 0 10) (by kernel_rfl) ?_
     repeat (first | (apply ap_read;exact rfl;exact rfl;exact gY;apply mo_load;exact rfl;(first | exact w2 | exact w3)) | (apply ap_pure;exact rfl;exact rfl;exact gY;intro L;apply mo_index1;exact rfl;exact rfl;omega) | (apply ap_pure;exact rfl;exact rfl;exact gY;intro L;apply mo_bin;exact rfl;exact rfl;(first | exact bin_lssT (by omega) | exact bin_lssF (by omega) | exact bin_geqT (by omega) | exact bin_geqF (by omega))) | refine aM ?_ | (apply ap_pure;exact rfl;exact rfl;exact gY;intro L;apply mo_len;exact rfl) | refine ap_end ?_)
     repeat (first | (apply wo_po;apply mo_bin;exact rfl;exact rfl;apply bin_add;exact hinc;exact trivial) | (refine wR ?_;try simp only [oS]) | refine wo_nil ?_ | refine wM ?_ | refine wA ?_ | refine wF ?_ | refine we_skip ?_)
     refine at_round (I:=rc4 (.slice (some ⟨sb,so,none⟩) n pc) rb ab pb n p (.slice va p.tr.length vc) x LR) (R:=fun j=>n-j.1<n-k) (k+1,.slice ca cn cc) (by show n-(k+1)<n-k;omega) (show k+1≤n by omega) ⟨rfl,rfl,rfl,rfl,rfl,trivial⟩ ?_ rfl
     show Ent _ (vec 1 (.slice ca cn cc) (cutC (cutN (ctG M) p.qs (k+1)))::_)
     rw [cutN_succ,if_neg (by rw [hno];decide),List.append_nil]
     exact .refl
    ·repeat (first | refine wlssT ?_ | refine we_seq ?_ | (refine wR ?_;try simp only [oS]) | refine wo_nil ?_ | refine wM ?_ | refine wE ?_ | refine wT ?_ | refine we_skip ?_ | refine we_block ?_)
     refine we_draw (List.range' 0 10) (by kernel_rfl) ?_
     repeat (first | (apply ap_read;exact rfl;exact rfl;exact gY;apply mo_load;exact rfl;(first | exact w2 | exact w3)) | (apply ap_pure;exact rfl;exact rfl;exact gY;intro L;apply mo_index1;exact rfl;exact rfl;omega) | (apply ap_pure;exact rfl;exact rfl;exact gY;intro L;apply mo_bin;exact rfl;exact rfl;(first | exact bin_lssT (by omega) | exact bin_lssF (by omega) | exact bin_geqT (by omega) | exact bin_geqF (by omega))) | refine aM ?_ | (apply ap_pure;exact rfl;exact rfl;exact gY;intro L;apply mo_len;exact rfl) | refine ap_end ?_)
     repeat (first | (apply wo_po;apply mo_load;exact rfl;exact w6;exact trivial) | (apply wo_mo;apply mo_buildSlice (sz:=1) (vs:=[.int .i64 (k:Nat)]);exact rfl;exact .cons rfl .nil;exact rfl;(intro v hv;cases (List.mem_singleton.1 hv);exact rfl);omega;exact trivial) | (refine wR ?_;try simp only [oS]) | refine wM ?_ | refine wD ?_ | refine wT ?_)
     rintro v' L' ⟨nb,rfl,rfl⟩
     repeat (first | (apply wo_mo;apply mo_append (sz:=1) (new:=[.int .i64 (k:Nat)]);exact rfl;exact rfl;exact rfl;exact rfl;exact (.there .here);exact rfl;exact .inr ⟨_,_,rfl,Rds.all .here⟩;(intro v hv;cases (List.mem_singleton.1 hv);exact rfl);(simp only [sliceLen];omega);exact trivial))
     rintro v' L' rfl
     refine wo_pure (of_has .here (vec_shape (by omega))) ?_
     rintro ⟨ua,un,uc,rfl,_⟩
     repeat (first | (apply wo_pm;apply mo_store;exact rfl;exact rfl;exact rfl;exact Wt.row (k:=1) (o:=0) (vs:=[.slice va p.tr.length vc,.slice ca cn cc]) (by show 1<2;omega) rfl (.there (.there .here));exact trivial) | (apply wo_po;apply mo_bin;exact rfl;exact rfl;apply bin_add;exact hinc;exact trivial) | (refine wR ?_;try simp only [oS]) | refine wo_nil ?_ | refine wM ?_ | refine wA ?_ | refine wD ?_)
     refine at_round (I:=rc4 (.slice (some ⟨sb,so,none⟩) n pc) rb ab pb n p (.slice va p.tr.length vc) x LR) (R:=fun j=>n-j.1<n-k) (k+1,.slice ua un uc) (by show n-(k+1)<n-k;omega) (show k+1≤n by omega) ⟨rfl,rfl,rfl,rfl,rfl,trivial⟩ ?_ rfl
     show Ent _ (vec 1 (.slice ua un uc) (cutC (cutN (ctG M) p.qs (k+1)))::arr pb 0 [.slice va p.tr.length vc,.slice ua un uc]::_)
     rw [cutN_succ,if_pos hyes,show cutC (cutN (ctG M) p.qs k++[k])=cutC (cutN (ctG M) p.qs k)++[.int .i64 (k:Nat)] by simp [cutC]]
     exact (.take .here (.drop .refl))
   ·obtain rfl:k=n:=by omega
    repeat (first | (apply wo_po;apply mo_loadA (vs:=[.slice va p.tr.length vc,.slice ca cn cc]);exact rfl;exact rfl;exact (fun i v hi=>.there (Rds.all .here i v hi));exact trivial) | (apply wo_pm;apply mo_storeA (c:=0) (k:=0) (a:=0) (vs:=[.slice none 0 0,.slice none 0 0]);exact rfl;exact rfl;exact rfl;(intro w hw;simp [Value.cells] at hw;rcases hw with rfl | rfl <;> rfl);exact rfl;exact Nat.le_refl 2;exact (.there (.there (.there (.there .here))));exact trivial) | refine wlssF ?_ | refine we_seq ?_ | (refine wR ?_;try simp only [oS]) | refine wo_nil ?_ | refine wM ?_ | refine wE ?_ | refine wF ?_ | refine we_ret ?_ | refine we_exit ?_)
    refine at_leaveM (rs:=[.cell 4 29]) Try.func15 Try.results15 hQ (.inl rfl) (.cons (.cell (vs:=[.slice va p.tr.length vc,.slice ca cn cc]) rfl rfl (Rds.all (.there (.there (.there (.there .here)))))) .nil) ?_
    exact ⟨rfl,.slice va p.tr.length vc,.slice ca cn cc,rfl,fun h st=>Ent.star (.take (.there (.there .here)) (.take .here (.drop (.drop (.drop .refl))))) st⟩
end
end
end Go.Proofs.Ytabbkjciifnehaa
