/- What an argument reads as where all together is of the second form's bulk. No condition. -/
import Derived.Test.YtibalpbkmgegnaaGreatDoorRows
import Derived.Test.YtibalpbkmgegnaaGreatDoorLOpen
namespace Go.Proofs.YtibalpbkmgegnaaGreatDoor.Opening

theorem bulk_part {H:Type} {d:DataW H} {l:List (DataW H)} (h:d∈l):Rows.uptoBulk d≤Rows.uptoBulkAll l:=by
  induction l with
  | nil=>cases h
  | cons x r ih =>
    simp only [Rows.uptoBulkAll]
    cases List.mem_cons.1 h with
    | inl e=>subst e;omega
    | inr e=>have:=ih e;omega
theorem bulk_one {H:Type} (d:DataW H):1≤Rows.uptoBulk d:=by
  cases d with
  | lit l=>cases l<;>simp [Rows.uptoBulk]
  | nil=>simp [Rows.uptoBulk]
  | ptr d=>simp [Rows.uptoBulk]
  | slice elems spare=>simp [Rows.uptoBulk]
  | agg parts=>simp [Rows.uptoBulk]
  | iface t d=>simp [Rows.uptoBulk]
  | map entries=>simp [Rows.uptoBulk]
  | held h=>simp [Rows.uptoBulk]
theorem bulk_length {H:Type} (l:List (DataW H)):l.length≤Rows.uptoBulkAll l:=by
  induction l with
  | nil=>simp [Rows.uptoBulkAll]
  | cons x r ih=>have:=bulk_one x;simp only [Rows.uptoBulkAll,List.length_cons];omega
def bulk (P:Program):Fits P where
  F:=fun _ d=>Rows.uptoBulk d≤1048576
  S:=1048576
  L:=fun _ n=>n≤1048576
  str:=fun h=>by
    simp only [Rows.uptoBulk] at h
    omega
  none_:=fun e=>by simp
  sl:=fun {H t e es sp} _ h=>by
    simp only [Rows.uptoBulk] at h
    have h1:=bulk_length es
    exact ⟨by omega,fun d hd=>by have:=bulk_part hd;omega⟩
  ag:=fun {H t fs ps} _ h i f p _ hp=>by
    simp only [Rows.uptoBulk] at h
    have:=bulk_part (List.mem_of_getElem? hp)
    omega
theorem bulk_of {H:Type} {P:Program} {ds gs:List (DataW H)} (h:Rows.uptoSmall H (ds ++ gs)=true) {j:Nat} {t:TypeId} {d:DataW H} (hd:ds[j]?=some d):(bulk P).F t d:=by
  have h1:Rows.uptoBulkAll (ds ++ gs)≤1048576:=of_decide_eq_true h
  have h2:=bulk_part (List.mem_append_left gs (List.mem_of_getElem? hd))
  exact Nat.le_trans h2 h1
end Go.Proofs.YtibalpbkmgegnaaGreatDoor.Opening
