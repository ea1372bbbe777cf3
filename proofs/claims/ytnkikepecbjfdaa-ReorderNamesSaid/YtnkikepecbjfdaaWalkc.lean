/- A part of the proof: walks through the functions that the statement reaches. -/
import Derived.Test.YtnkikepecbjfdaaWalkb
set_option linter.unusedVariables false
set_option linter.unusedSimpArgs false

/-! (TRW hotspotlaw18 ReorderNames) -/

set_option linter.unusedSimpArgs false
set_option linter.unusedVariables false
set_option maxHeartbeats 4000000
set_option maxRecDepth 20000
namespace Go.AX.Z.TR
open Go.AX Go.Proofs
attribute [local irreducible] awp xw xop xcall gsp ob xd xdop xcallD seqQ loopQ blkQ endQ

def hotspotlaw18_ReorderNames_S0 (x111 : (Reorder × Int)) (x112 : (Reorder × Int)) : AS :=
 { objs := (fun _ => .dead), next := 0, tmps := (upd (upd (fun _ => .unk) 2 (vi x111.2)) 4 (vi x112.2)) }

def hotspotlaw18_ReorderNames_S1 (x111 : (Reorder × Int)) (x112 : (Reorder × Int)) (x113 : (Reorder × Int)) (x114 : (Reorder × Int)) : AS :=
 { objs := (fun _ => .dead), next := 0, tmps := (upd (upd (upd (upd (fun _ => .unk) 2 (vi x111.2)) 4 (vi x112.2)) 6 (vi x113.2)) 8 (vi x114.2)) }

def hotspotlaw18_ReorderNames_S2 (x117 : ((List Frame) × Reorder × Int)) (x111 : (Reorder × Int)) (x112 : (Reorder × Int)) (x113 : (Reorder × Int)) (x114 : (Reorder × Int)) (x115 : (Reorder × Int)) : AS :=
 { objs := (upd (fun _ => .dead) 0 (.live (e_Reorder x117.2.1 (.imm (List.flatMap E_HeldSeq x117.2.1.Held) x117.2.1.Held.length)))), next := 1, tmps := (upd (upd (upd (upd (upd (upd (upd (fun _ => .unk) 2 (vi x111.2)) 4 (vi x112.2)) 6 (vi x113.2)) 8 (vi x114.2)) 9 (.ptr 0 0)) 10 (vi x115.2)) 12 (vi x117.2.2)) }

def hotspotlaw18_ReorderNames_S3 (x117 : ((List Frame) × Reorder × Int)) (x111 : (Reorder × Int)) (x112 : (Reorder × Int)) (x113 : (Reorder × Int)) (x114 : (Reorder × Int)) (x115 : (Reorder × Int)) (x119 : ((List Frame) × Reorder × Int)) : AS :=
 { objs := (upd (fun _ => .dead) 0 (.live (e_Reorder x117.2.1 (.imm (List.flatMap E_HeldSeq x117.2.1.Held) x117.2.1.Held.length)))), next := 1, tmps := (upd (upd (upd (upd (upd (upd (upd (upd (fun _ => .unk) 2 (vi x111.2)) 4 (vi x112.2)) 6 (vi x113.2)) 8 (vi x114.2)) 9 (.ptr 0 0)) 10 (vi x115.2)) 12 (vi x117.2.2)) 15 (vi x119.2.2)) }

def hotspotlaw18_ReorderNames_S4 (x117 : ((List Frame) × Reorder × Int)) (x111 : (Reorder × Int)) (x112 : (Reorder × Int)) (x113 : (Reorder × Int)) (x114 : (Reorder × Int)) (x115 : (Reorder × Int)) (x119 : ((List Frame) × Reorder × Int)) (x121 : ((List Frame) × Reorder × Int)) : AS :=
 { objs := (upd (fun _ => .dead) 0 (.live (e_Reorder x117.2.1 (.imm (List.flatMap E_HeldSeq x117.2.1.Held) x117.2.1.Held.length)))), next := 1, tmps := (upd (upd (upd (upd (upd (upd (upd (upd (upd (fun _ => .unk) 2 (vi x111.2)) 4 (vi x112.2)) 6 (vi x113.2)) 8 (vi x114.2)) 9 (.ptr 0 0)) 10 (vi x115.2)) 12 (vi x117.2.2)) 15 (vi x119.2.2)) 18 (vi x121.2.2)) }

def hotspotlaw18_ReorderNames_S5 (x117 : ((List Frame) × Reorder × Int)) (x111 : (Reorder × Int)) (x112 : (Reorder × Int)) (x113 : (Reorder × Int)) (x114 : (Reorder × Int)) (x115 : (Reorder × Int)) (x119 : ((List Frame) × Reorder × Int)) (x121 : ((List Frame) × Reorder × Int)) (x123 : ((List Frame) × Reorder × Int)) : AS :=
 { objs := (upd (fun _ => .dead) 0 (.live (e_Reorder x117.2.1 (.imm (List.flatMap E_HeldSeq x117.2.1.Held) x117.2.1.Held.length)))), next := 1, tmps := (upd (upd (upd (upd (upd (upd (upd (upd (upd (upd (fun _ => .unk) 2 (vi x111.2)) 4 (vi x112.2)) 6 (vi x113.2)) 8 (vi x114.2)) 9 (.ptr 0 0)) 10 (vi x115.2)) 12 (vi x117.2.2)) 15 (vi x119.2.2)) 18 (vi x121.2.2)) 21 (vi x123.2.2)) }

def hotspotlaw18_ReorderNames_S6 (x117 : ((List Frame) × Reorder × Int)) (x125 : ((List Frame) × Reorder × Int)) (x111 : (Reorder × Int)) (x112 : (Reorder × Int)) (x113 : (Reorder × Int)) (x114 : (Reorder × Int)) (x115 : (Reorder × Int)) (x119 : ((List Frame) × Reorder × Int)) (x121 : ((List Frame) × Reorder × Int)) (x123 : ((List Frame) × Reorder × Int)) : AS :=
 { objs := (upd (upd (fun _ => .dead) 0 (.live (e_Reorder x117.2.1 (.imm (List.flatMap E_HeldSeq x117.2.1.Held) x117.2.1.Held.length)))) 1 (.live (e_Reorder x125.2.1 (.imm (List.flatMap E_HeldSeq x125.2.1.Held) x125.2.1.Held.length)))), next := 2, tmps := (upd (upd (upd (upd (upd (upd (upd (upd (upd (upd (upd (upd (upd (fun _ => .unk) 2 (vi x111.2)) 4 (vi x112.2)) 6 (vi x113.2)) 8 (vi x114.2)) 9 (.ptr 0 0)) 10 (vi x115.2)) 12 (vi x117.2.2)) 15 (vi x119.2.2)) 18 (vi x121.2.2)) 21 (vi x123.2.2)) 22 (.imm (List.flatMap E_Frame x125.1) x125.1.length)) 23 (.ptr 1 0)) 24 (vi x125.2.2)) }

def hotspotlaw18_ReorderNames_S7 (x117 : ((List Frame) × Reorder × Int)) (x125 : ((List Frame) × Reorder × Int)) (x111 : (Reorder × Int)) (x112 : (Reorder × Int)) (x113 : (Reorder × Int)) (x114 : (Reorder × Int)) (x115 : (Reorder × Int)) (x119 : ((List Frame) × Reorder × Int)) (x121 : ((List Frame) × Reorder × Int)) (x123 : ((List Frame) × Reorder × Int)) (x127 : ((List Frame) × Reorder × Int)) : AS :=
 { objs := (upd (upd (fun _ => .dead) 0 (.live (e_Reorder x117.2.1 (.imm (List.flatMap E_HeldSeq x117.2.1.Held) x117.2.1.Held.length)))) 1 (.live (e_Reorder x125.2.1 (.imm (List.flatMap E_HeldSeq x125.2.1.Held) x125.2.1.Held.length)))), next := 2, tmps := (upd (upd (upd (upd (upd (upd (upd (upd (upd (upd (upd (upd (upd (upd (fun _ => .unk) 2 (vi x111.2)) 4 (vi x112.2)) 6 (vi x113.2)) 8 (vi x114.2)) 9 (.ptr 0 0)) 10 (vi x115.2)) 12 (vi x117.2.2)) 15 (vi x119.2.2)) 18 (vi x121.2.2)) 21 (vi x123.2.2)) 22 (.imm (List.flatMap E_Frame x125.1) x125.1.length)) 23 (.ptr 1 0)) 24 (vi x125.2.2)) 27 (vi x127.2.2)) }

def hotspotlaw18_ReorderNames_S8 (x117 : ((List Frame) × Reorder × Int)) (x125 : ((List Frame) × Reorder × Int)) (x111 : (Reorder × Int)) (x112 : (Reorder × Int)) (x113 : (Reorder × Int)) (x114 : (Reorder × Int)) (x115 : (Reorder × Int)) (x119 : ((List Frame) × Reorder × Int)) (x121 : ((List Frame) × Reorder × Int)) (x123 : ((List Frame) × Reorder × Int)) (x127 : ((List Frame) × Reorder × Int)) (x129 : ((List Frame) × Reorder × Int)) : AS :=
 { objs := (upd (upd (fun _ => .dead) 0 (.live (e_Reorder x117.2.1 (.imm (List.flatMap E_HeldSeq x117.2.1.Held) x117.2.1.Held.length)))) 1 (.live (e_Reorder x125.2.1 (.imm (List.flatMap E_HeldSeq x125.2.1.Held) x125.2.1.Held.length)))), next := 2, tmps := (upd (upd (upd (upd (upd (upd (upd (upd (upd (upd (upd (upd (upd (upd (upd (fun _ => .unk) 2 (vi x111.2)) 4 (vi x112.2)) 6 (vi x113.2)) 8 (vi x114.2)) 9 (.ptr 0 0)) 10 (vi x115.2)) 12 (vi x117.2.2)) 15 (vi x119.2.2)) 18 (vi x121.2.2)) 21 (vi x123.2.2)) 22 (.imm (List.flatMap E_Frame x125.1) x125.1.length)) 23 (.ptr 1 0)) 24 (vi x125.2.2)) 27 (vi x127.2.2)) 30 (vi x129.2.2)) }

def hotspotlaw18_ReorderNames_S9 (x117 : ((List Frame) × Reorder × Int)) (x125 : ((List Frame) × Reorder × Int)) (x111 : (Reorder × Int)) (x112 : (Reorder × Int)) (x113 : (Reorder × Int)) (x114 : (Reorder × Int)) (x115 : (Reorder × Int)) (x119 : ((List Frame) × Reorder × Int)) (x121 : ((List Frame) × Reorder × Int)) (x123 : ((List Frame) × Reorder × Int)) (x127 : ((List Frame) × Reorder × Int)) (x129 : ((List Frame) × Reorder × Int)) (x131 : ((List Frame) × Reorder × Int)) : AS :=
 { objs := (upd (upd (fun _ => .dead) 0 (.live (e_Reorder x117.2.1 (.imm (List.flatMap E_HeldSeq x117.2.1.Held) x117.2.1.Held.length)))) 1 (.live (e_Reorder x125.2.1 (.imm (List.flatMap E_HeldSeq x125.2.1.Held) x125.2.1.Held.length)))), next := 2, tmps := (upd (upd (upd (upd (upd (upd (upd (upd (upd (upd (upd (upd (upd (upd (upd (upd (fun _ => .unk) 2 (vi x111.2)) 4 (vi x112.2)) 6 (vi x113.2)) 8 (vi x114.2)) 9 (.ptr 0 0)) 10 (vi x115.2)) 12 (vi x117.2.2)) 15 (vi x119.2.2)) 18 (vi x121.2.2)) 21 (vi x123.2.2)) 22 (.imm (List.flatMap E_Frame x125.1) x125.1.length)) 23 (.ptr 1 0)) 24 (vi x125.2.2)) 27 (vi x127.2.2)) 30 (vi x129.2.2)) 33 (vi x131.2.2)) }

def hotspotlaw18_ReorderNames_S10 (x117 : ((List Frame) × Reorder × Int)) (x125 : ((List Frame) × Reorder × Int)) (x132 : ((List Frame) × Reorder × Int)) (x133 : ((List Frame) × Reorder × Int)) (x111 : (Reorder × Int)) (x112 : (Reorder × Int)) (x113 : (Reorder × Int)) (x114 : (Reorder × Int)) (x115 : (Reorder × Int)) (x119 : ((List Frame) × Reorder × Int)) (x121 : ((List Frame) × Reorder × Int)) (x123 : ((List Frame) × Reorder × Int)) (x127 : ((List Frame) × Reorder × Int)) (x129 : ((List Frame) × Reorder × Int)) (x131 : ((List Frame) × Reorder × Int)) : AS :=
 { objs := (upd (upd (upd (upd (fun _ => .dead) 0 (.live (e_Reorder x117.2.1 (.imm (List.flatMap E_HeldSeq x117.2.1.Held) x117.2.1.Held.length)))) 1 (.live (e_Reorder x125.2.1 (.imm (List.flatMap E_HeldSeq x125.2.1.Held) x125.2.1.Held.length)))) 2 (.live (e_Reorder x132.2.1 (.imm (List.flatMap E_HeldSeq x132.2.1.Held) x132.2.1.Held.length)))) 3 (.live (e_Reorder x133.2.1 (.imm (List.flatMap E_HeldSeq x133.2.1.Held) x133.2.1.Held.length)))), next := 4, tmps := (upd (upd (upd (upd (upd (upd (upd (upd (upd (upd (upd (upd (upd (upd (upd (upd (upd (upd (upd (upd (upd (upd (fun _ => .unk) 2 (vi x111.2)) 4 (vi x112.2)) 6 (vi x113.2)) 8 (vi x114.2)) 9 (.ptr 0 0)) 10 (vi x115.2)) 12 (vi x117.2.2)) 15 (vi x119.2.2)) 18 (vi x121.2.2)) 21 (vi x123.2.2)) 22 (.imm (List.flatMap E_Frame x125.1) x125.1.length)) 23 (.ptr 1 0)) 24 (vi x125.2.2)) 27 (vi x127.2.2)) 30 (vi x129.2.2)) 33 (vi x131.2.2)) 34 (.imm (List.flatMap E_Frame x132.1) x132.1.length)) 35 (.ptr 2 0)) 36 (vi x132.2.2)) 37 (.imm (List.flatMap E_Frame x133.1) x133.1.length)) 38 (.ptr 3 0)) 39 (vi x133.2.2)) }

def hotspotlaw18_ReorderNames_S11 (x117 : ((List Frame) × Reorder × Int)) (x125 : ((List Frame) × Reorder × Int)) (x132 : ((List Frame) × Reorder × Int)) (x133 : ((List Frame) × Reorder × Int)) (x111 : (Reorder × Int)) (x112 : (Reorder × Int)) (x113 : (Reorder × Int)) (x114 : (Reorder × Int)) (x115 : (Reorder × Int)) (x119 : ((List Frame) × Reorder × Int)) (x121 : ((List Frame) × Reorder × Int)) (x123 : ((List Frame) × Reorder × Int)) (x127 : ((List Frame) × Reorder × Int)) (x129 : ((List Frame) × Reorder × Int)) (x131 : ((List Frame) × Reorder × Int)) (x134 : ((List Frame) × Reorder × Int)) (x135 : ((List Frame) × Reorder × Int)) : AS :=
 { objs := (upd (upd (upd (upd (fun _ => .dead) 0 (.live (e_Reorder x117.2.1 (.imm (List.flatMap E_HeldSeq x117.2.1.Held) x117.2.1.Held.length)))) 1 (.live (e_Reorder x125.2.1 (.imm (List.flatMap E_HeldSeq x125.2.1.Held) x125.2.1.Held.length)))) 2 (.live (e_Reorder x132.2.1 (.imm (List.flatMap E_HeldSeq x132.2.1.Held) x132.2.1.Held.length)))) 3 (.live (e_Reorder x133.2.1 (.imm (List.flatMap E_HeldSeq x133.2.1.Held) x133.2.1.Held.length)))), next := 4, tmps := (upd (upd (upd (upd (upd (upd (upd (upd (upd (upd (upd (upd (upd (upd (upd (upd (upd (upd (upd (upd (upd (upd (upd (upd (upd (fun _ => .unk) 2 (vi x111.2)) 4 (vi x112.2)) 6 (vi x113.2)) 8 (vi x114.2)) 9 (.ptr 0 0)) 10 (vi x115.2)) 12 (vi x117.2.2)) 15 (vi x119.2.2)) 18 (vi x121.2.2)) 21 (vi x123.2.2)) 22 (.imm (List.flatMap E_Frame x125.1) x125.1.length)) 23 (.ptr 1 0)) 24 (vi x125.2.2)) 27 (vi x127.2.2)) 30 (vi x129.2.2)) 33 (vi x131.2.2)) 34 (.imm (List.flatMap E_Frame x132.1) x132.1.length)) 35 (.ptr 2 0)) 36 (vi x132.2.2)) 37 (.imm (List.flatMap E_Frame x133.1) x133.1.length)) 38 (.ptr 3 0)) 39 (vi x133.2.2)) 42 (vi x134.2.2)) 43 (.imm (List.flatMap E_Frame x135.1) x135.1.length)) 45 (vi x135.2.2)) }

def hotspotlaw18_ReorderNames_S12 (x117 : ((List Frame) × Reorder × Int)) (x125 : ((List Frame) × Reorder × Int)) (x132 : ((List Frame) × Reorder × Int)) (x133 : ((List Frame) × Reorder × Int)) (x137 : (Window × Int)) (x111 : (Reorder × Int)) (x112 : (Reorder × Int)) (x113 : (Reorder × Int)) (x114 : (Reorder × Int)) (x115 : (Reorder × Int)) (x119 : ((List Frame) × Reorder × Int)) (x121 : ((List Frame) × Reorder × Int)) (x123 : ((List Frame) × Reorder × Int)) (x127 : ((List Frame) × Reorder × Int)) (x129 : ((List Frame) × Reorder × Int)) (x131 : ((List Frame) × Reorder × Int)) (x134 : ((List Frame) × Reorder × Int)) (x135 : ((List Frame) × Reorder × Int)) (x136 : ((List Frame) × Reorder × Int)) : AS :=
 { objs := (upd (upd (upd (upd (upd (fun _ => .dead) 0 (.live (e_Reorder x117.2.1 (.imm (List.flatMap E_HeldSeq x117.2.1.Held) x117.2.1.Held.length)))) 1 (.live (e_Reorder x125.2.1 (.imm (List.flatMap E_HeldSeq x125.2.1.Held) x125.2.1.Held.length)))) 2 (.live (e_Reorder x132.2.1 (.imm (List.flatMap E_HeldSeq x132.2.1.Held) x132.2.1.Held.length)))) 3 (.live (e_Reorder x133.2.1 (.imm (List.flatMap E_HeldSeq x133.2.1.Held) x133.2.1.Held.length)))) 4 (.live (e_Window x137.1))), next := 5, tmps := (upd (upd (upd (upd (upd (upd (upd (upd (upd (upd (upd (upd (upd (upd (upd (upd (upd (upd (upd (upd (upd (upd (upd (upd (upd (upd (upd (upd (fun _ => .unk) 2 (vi x111.2)) 4 (vi x112.2)) 6 (vi x113.2)) 8 (vi x114.2)) 9 (.ptr 0 0)) 10 (vi x115.2)) 12 (vi x117.2.2)) 15 (vi x119.2.2)) 18 (vi x121.2.2)) 21 (vi x123.2.2)) 22 (.imm (List.flatMap E_Frame x125.1) x125.1.length)) 23 (.ptr 1 0)) 24 (vi x125.2.2)) 27 (vi x127.2.2)) 30 (vi x129.2.2)) 33 (vi x131.2.2)) 34 (.imm (List.flatMap E_Frame x132.1) x132.1.length)) 35 (.ptr 2 0)) 36 (vi x132.2.2)) 37 (.imm (List.flatMap E_Frame x133.1) x133.1.length)) 38 (.ptr 3 0)) 39 (vi x133.2.2)) 42 (vi x134.2.2)) 43 (.imm (List.flatMap E_Frame x135.1) x135.1.length)) 45 (vi x135.2.2)) 48 (vi x136.2.2)) 49 (.ptr 4 0)) 50 (vi x137.2)) }

def hotspotlaw18_ReorderNames_S14 (x117 : ((List Frame) × Reorder × Int)) (x125 : ((List Frame) × Reorder × Int)) (x132 : ((List Frame) × Reorder × Int)) (x133 : ((List Frame) × Reorder × Int)) (x137 : (Window × Int)) (x111 : (Reorder × Int)) (x112 : (Reorder × Int)) (x113 : (Reorder × Int)) (x114 : (Reorder × Int)) (x115 : (Reorder × Int)) (x119 : ((List Frame) × Reorder × Int)) (x121 : ((List Frame) × Reorder × Int)) (x123 : ((List Frame) × Reorder × Int)) (x127 : ((List Frame) × Reorder × Int)) (x129 : ((List Frame) × Reorder × Int)) (x131 : ((List Frame) × Reorder × Int)) (x134 : ((List Frame) × Reorder × Int)) (x135 : ((List Frame) × Reorder × Int)) (x136 : ((List Frame) × Reorder × Int)) (x138 : Frame) (x139 : Frame) (x140 : Frame) (x141 : Frame) (x142 : Frame) : AS :=
 { objs := (upd (upd (upd (upd (upd (fun _ => .dead) 0 (.live (e_Reorder x117.2.1 (.imm (List.flatMap E_HeldSeq x117.2.1.Held) x117.2.1.Held.length)))) 1 (.live (e_Reorder x125.2.1 (.imm (List.flatMap E_HeldSeq x125.2.1.Held) x125.2.1.Held.length)))) 2 (.live (e_Reorder x132.2.1 (.imm (List.flatMap E_HeldSeq x132.2.1.Held) x132.2.1.Held.length)))) 3 (.live (e_Reorder x133.2.1 (.imm (List.flatMap E_HeldSeq x133.2.1.Held) x133.2.1.Held.length)))) 4 (.live (e_Window x137.1))), next := 5, tmps := (upd (upd (upd (upd (upd (upd (upd (upd (upd (upd (upd (upd (upd (upd (upd (upd (upd (upd (upd (upd (upd (upd (upd (upd (upd (upd (upd (upd (upd (fun _ => .unk) 2 (vi x111.2)) 4 (vi x112.2)) 6 (vi x113.2)) 8 (vi x114.2)) 9 (.ptr 0 0)) 10 (vi x115.2)) 12 (vi x117.2.2)) 15 (vi x119.2.2)) 18 (vi x121.2.2)) 21 (vi x123.2.2)) 22 (.imm (List.flatMap E_Frame x125.1) x125.1.length)) 23 (.ptr 1 0)) 24 (vi x125.2.2)) 27 (vi x127.2.2)) 30 (vi x129.2.2)) 33 (vi x131.2.2)) 34 (.imm (List.flatMap E_Frame x132.1) x132.1.length)) 35 (.ptr 2 0)) 36 (vi x132.2.2)) 37 (.imm (List.flatMap E_Frame x133.1) x133.1.length)) 38 (.ptr 3 0)) 39 (vi x133.2.2)) 42 (vi x134.2.2)) 43 (.imm (List.flatMap E_Frame x135.1) x135.1.length)) 45 (vi x135.2.2)) 48 (vi x136.2.2)) 49 (.ptr 4 0)) 50 (vi x137.2)) 51 (.imm (List.flatMap E_Reorder (hotspotlaw18_ReorderNames_C13 x138 x139 x140 x141 x142)) (hotspotlaw18_ReorderNames_C13 x138 x139 x140 x141 x142).length)) }

def hotspotlaw18_ReorderNames_S15 (x117 : ((List Frame) × Reorder × Int)) (x125 : ((List Frame) × Reorder × Int)) (x132 : ((List Frame) × Reorder × Int)) (x133 : ((List Frame) × Reorder × Int)) (x137 : (Window × Int)) (x111 : (Reorder × Int)) (x112 : (Reorder × Int)) (x113 : (Reorder × Int)) (x114 : (Reorder × Int)) (x115 : (Reorder × Int)) (x119 : ((List Frame) × Reorder × Int)) (x121 : ((List Frame) × Reorder × Int)) (x123 : ((List Frame) × Reorder × Int)) (x127 : ((List Frame) × Reorder × Int)) (x129 : ((List Frame) × Reorder × Int)) (x131 : ((List Frame) × Reorder × Int)) (x134 : ((List Frame) × Reorder × Int)) (x135 : ((List Frame) × Reorder × Int)) (x136 : ((List Frame) × Reorder × Int)) (d143 : Unit) : AS :=
 { objs := (upd (upd (upd (upd (upd (fun _ => .dead) 0 (.live (e_Reorder x117.2.1 (.imm (List.flatMap E_HeldSeq x117.2.1.Held) x117.2.1.Held.length)))) 1 (.live (e_Reorder x125.2.1 (.imm (List.flatMap E_HeldSeq x125.2.1.Held) x125.2.1.Held.length)))) 2 (.live (e_Reorder x132.2.1 (.imm (List.flatMap E_HeldSeq x132.2.1.Held) x132.2.1.Held.length)))) 3 (.live (e_Reorder x133.2.1 (.imm (List.flatMap E_HeldSeq x133.2.1.Held) x133.2.1.Held.length)))) 4 (.live (e_Window x137.1))), next := 5, tmps := (upd (upd (upd (upd (upd (upd (upd (upd (upd (upd (upd (upd (upd (upd (upd (upd (upd (upd (upd (upd (upd (upd (upd (upd (upd (upd (upd (upd (fun _ => .unk) 2 (vi x111.2)) 4 (vi x112.2)) 6 (vi x113.2)) 8 (vi x114.2)) 9 (.ptr 0 0)) 10 (vi x115.2)) 12 (vi x117.2.2)) 15 (vi x119.2.2)) 18 (vi x121.2.2)) 21 (vi x123.2.2)) 22 (.imm (List.flatMap E_Frame x125.1) x125.1.length)) 23 (.ptr 1 0)) 24 (vi x125.2.2)) 27 (vi x127.2.2)) 30 (vi x129.2.2)) 33 (vi x131.2.2)) 34 (.imm (List.flatMap E_Frame x132.1) x132.1.length)) 35 (.ptr 2 0)) 36 (vi x132.2.2)) 37 (.imm (List.flatMap E_Frame x133.1) x133.1.length)) 38 (.ptr 3 0)) 39 (vi x133.2.2)) 42 (vi x134.2.2)) 43 (.imm (List.flatMap E_Frame x135.1) x135.1.length)) 45 (vi x135.2.2)) 48 (vi x136.2.2)) 49 (.ptr 4 0)) 50 (vi x137.2)) }

def hotspotlaw18_ReorderNames_S16 (x117 : ((List Frame) × Reorder × Int)) (x125 : ((List Frame) × Reorder × Int)) (x132 : ((List Frame) × Reorder × Int)) (x133 : ((List Frame) × Reorder × Int)) (x137 : (Window × Int)) (x111 : (Reorder × Int)) (x112 : (Reorder × Int)) (x113 : (Reorder × Int)) (x114 : (Reorder × Int)) (x115 : (Reorder × Int)) (x119 : ((List Frame) × Reorder × Int)) (x121 : ((List Frame) × Reorder × Int)) (x123 : ((List Frame) × Reorder × Int)) (x127 : ((List Frame) × Reorder × Int)) (x129 : ((List Frame) × Reorder × Int)) (x131 : ((List Frame) × Reorder × Int)) (x134 : ((List Frame) × Reorder × Int)) (x135 : ((List Frame) × Reorder × Int)) (x136 : ((List Frame) × Reorder × Int)) (x138 : Frame) (x139 : Frame) (x140 : Frame) (x141 : Frame) (x142 : Frame) (d145 : Int) : AS :=
 { objs := (upd (upd (upd (upd (upd (fun _ => .dead) 0 (.live (e_Reorder x117.2.1 (.imm (List.flatMap E_HeldSeq x117.2.1.Held) x117.2.1.Held.length)))) 1 (.live (e_Reorder x125.2.1 (.imm (List.flatMap E_HeldSeq x125.2.1.Held) x125.2.1.Held.length)))) 2 (.live (e_Reorder x132.2.1 (.imm (List.flatMap E_HeldSeq x132.2.1.Held) x132.2.1.Held.length)))) 3 (.live (e_Reorder x133.2.1 (.imm (List.flatMap E_HeldSeq x133.2.1.Held) x133.2.1.Held.length)))) 4 (.live (e_Window x137.1))), next := 5, tmps := (upd (upd (upd (upd (upd (upd (upd (upd (upd (upd (upd (upd (upd (upd (upd (upd (upd (upd (upd (upd (upd (upd (upd (upd (upd (upd (upd (upd (upd (upd (fun _ => .unk) 2 (vi x111.2)) 4 (vi x112.2)) 6 (vi x113.2)) 8 (vi x114.2)) 9 (.ptr 0 0)) 10 (vi x115.2)) 12 (vi x117.2.2)) 15 (vi x119.2.2)) 18 (vi x121.2.2)) 21 (vi x123.2.2)) 22 (.imm (List.flatMap E_Frame x125.1) x125.1.length)) 23 (.ptr 1 0)) 24 (vi x125.2.2)) 27 (vi x127.2.2)) 30 (vi x129.2.2)) 33 (vi x131.2.2)) 34 (.imm (List.flatMap E_Frame x132.1) x132.1.length)) 35 (.ptr 2 0)) 36 (vi x132.2.2)) 37 (.imm (List.flatMap E_Frame x133.1) x133.1.length)) 38 (.ptr 3 0)) 39 (vi x133.2.2)) 42 (vi x134.2.2)) 43 (.imm (List.flatMap E_Frame x135.1) x135.1.length)) 45 (vi x135.2.2)) 48 (vi x136.2.2)) 49 (.ptr 4 0)) 50 (vi x137.2)) 51 (.imm (List.flatMap E_Reorder (hotspotlaw18_ReorderNames_C13 x138 x139 x140 x141 x142)) (hotspotlaw18_ReorderNames_C13 x138 x139 x140 x141 x142).length)) 52 (vi d145)) }

def hotspotlaw18_ReorderNames_S18 (x137 : (Window × Int)) (x135 : ((List Frame) × Reorder × Int)) (x136 : ((List Frame) × Reorder × Int)) (x111 : (Reorder × Int)) (x112 : (Reorder × Int)) (x113 : (Reorder × Int)) (x114 : (Reorder × Int)) (x115 : (Reorder × Int)) (x117 : ((List Frame) × Reorder × Int)) (x148 : Bool) (x125 : ((List Frame) × Reorder × Int)) (x127 : ((List Frame) × Reorder × Int)) (x129 : ((List Frame) × Reorder × Int)) (x131 : ((List Frame) × Reorder × Int)) (x154 : Bool) (x133 : ((List Frame) × Reorder × Int)) (x134 : ((List Frame) × Reorder × Int)) : AS :=
 { objs := (upd (fun _ => .dead) 0 (.live (e_Window x137.1))), next := 1, tmps := (upd (upd (upd (upd (upd (upd (upd (upd (fun _ => .unk) 43 (.imm (List.flatMap E_Frame x135.1) x135.1.length)) 45 (vi x135.2.2)) 48 (vi x136.2.2)) 49 (.ptr 0 0)) 50 (vi x137.2)) 53 (vb ((((((x111.2 == 2) && (x112.2 == 2)) && (x113.2 == 2)) && (x114.2 == 2)) && (x115.2 == 0)) && (x117.2.2 == 0)))) 54 (vb (((((x148 && (x125.2.1.Start == 2050)) && ((x125.2.1.Held.length : Int) == 1)) && (x127.2.2 == 2)) && (x129.2.2 == 2)) && (x131.2.2 == 8)))) 55 (vb (((x154 && (x133.2.1.Start == 11)) && ((x133.2.1.Held.length : Int) == 1)) && (x134.2.2 == 2)))) }

def hotspotlaw18_ReorderNames_S19 (x137 : (Window × Int)) (x135 : ((List Frame) × Reorder × Int)) (x136 : ((List Frame) × Reorder × Int)) (x111 : (Reorder × Int)) (x112 : (Reorder × Int)) (x113 : (Reorder × Int)) (x114 : (Reorder × Int)) (x115 : (Reorder × Int)) (x117 : ((List Frame) × Reorder × Int)) (x163 : Bool) (x133 : ((List Frame) × Reorder × Int)) (x134 : ((List Frame) × Reorder × Int)) : AS :=
 { objs := (upd (fun _ => .dead) 0 (.live (e_Window x137.1))), next := 1, tmps := (upd (upd (upd (upd (upd (upd (upd (upd (fun _ => .unk) 43 (.imm (List.flatMap E_Frame x135.1) x135.1.length)) 45 (vi x135.2.2)) 48 (vi x136.2.2)) 49 (.ptr 0 0)) 50 (vi x137.2)) 53 (vb ((((((x111.2 == 2) && (x112.2 == 2)) && (x113.2 == 2)) && (x114.2 == 2)) && (x115.2 == 0)) && (x117.2.2 == 0)))) 54 (vb false)) 55 (vb (((x163 && (x133.2.1.Start == 11)) && ((x133.2.1.Held.length : Int) == 1)) && (x134.2.2 == 2)))) }

theorem hotspotlaw18_ReorderNames_p {r : Bool} (h0 : hotspotlaw18_ReorderNames = some r) : SndP K 10 [] (vb r) := by
 refine SndP.of_walkW hC (Clean.v _) clean_nil (show K.P.funcs[10]? = some Try.f10 from Try.func10) rfl rfl (by decide +kernel) (Nat.le_of_ble_eq_true rfl) ?_
 unfold hotspotlaw18_ReorderNames at h0
 refine awp_nr [] (fun _ => rfl) fun tz => ?_
 refine awp_regW fun KK hKK => ?_
 refine xw_id ?_
 try simp only [go_sem, Nat.reduceEqDiff, reduceIte, Nat.reduceAdd, Nat.reduceMul, Nat.reduceSub, Nat.reduceLT, Nat.reduceLeDiff]
 refine hKK _ _ (Wk.refl _ _ _) ?_; clear hKK KK
 refine awp_nr [] (fun _ => rfl) fun tz => ?_
 refine awp_regW fun KK hKK => ?_
 refine xw_id ?_
 obtain ⟨x111, bx111, h0⟩ := bnd h0
 try simp only [go_sem, Nat.reduceEqDiff, reduceIte, Nat.reduceAdd, Nat.reduceMul, Nat.reduceSub, Nat.reduceLT, Nat.reduceLeDiff]
 refine xcall_p (reorder_New_p 4096 1 0 bx111) ?_; try dsimp only
 try refine xw_id ?_
 try simp only [go_sem, Nat.reduceEqDiff, reduceIte, Nat.reduceAdd, Nat.reduceMul, Nat.reduceSub, Nat.reduceLT, Nat.reduceLeDiff]
 refine hKK _ _ (Wk.refl _ _ _) ?_; clear hKK KK
 refine awp_nr [2] (fun _ => rfl) fun tz => ?_
 refine awp_regW fun KK hKK => ?_
 refine xw_id ?_
 obtain ⟨x112, bx112, h0⟩ := bnd h0
 try simp only [go_sem, Nat.reduceEqDiff, reduceIte, Nat.reduceAdd, Nat.reduceMul, Nat.reduceSub, Nat.reduceLT, Nat.reduceLeDiff]
 refine xcall_p (reorder_New_p 0 65 0 bx112) ?_; try dsimp only
 try refine xw_id ?_
 try simp only [go_sem, Nat.reduceEqDiff, reduceIte, Nat.reduceAdd, Nat.reduceMul, Nat.reduceSub, Nat.reduceLT, Nat.reduceLeDiff]
 refine hKK _ (hotspotlaw18_ReorderNames_S0 x111 x112) (Wk.canonD [] [] [] rfl trivial rfl tmO0 (tmAllU 4 (tmAllU 2 tmAll0 (Tm.v _)) (Tm.v _))) ?_; clear hKK KK
 unfold hotspotlaw18_ReorderNames_S0
 refine awp_nr [2,4] (fun _ => rfl) fun tz => ?_
 refine awp_regW fun KK hKK => ?_
 refine xw_id ?_
 obtain ⟨x113, bx113, h0⟩ := bnd h0
 try simp only [go_sem, Nat.reduceEqDiff, reduceIte, Nat.reduceAdd, Nat.reduceMul, Nat.reduceSub, Nat.reduceLT, Nat.reduceLeDiff]
 refine xcall_p (reorder_New_p 0 0 0 bx113) ?_; try dsimp only
 try refine xw_id ?_
 try simp only [go_sem, Nat.reduceEqDiff, reduceIte, Nat.reduceAdd, Nat.reduceMul, Nat.reduceSub, Nat.reduceLT, Nat.reduceLeDiff]
 refine hKK _ _ (Wk.refl _ _ _) ?_; clear hKK KK
 refine awp_nr [2,4,6] (fun _ => rfl) fun tz => ?_
 refine awp_regW fun KK hKK => ?_
 refine xw_id ?_
 obtain ⟨x114, bx114, h0⟩ := bnd h0
 try simp only [go_sem, Nat.reduceEqDiff, reduceIte, Nat.reduceAdd, Nat.reduceMul, Nat.reduceSub, Nat.reduceLT, Nat.reduceLeDiff]
 refine xcall_p (reorder_New_p 0 1 16777217 bx114) ?_; try dsimp only
 try refine xw_id ?_
 try simp only [go_sem, Nat.reduceEqDiff, reduceIte, Nat.reduceAdd, Nat.reduceMul, Nat.reduceSub, Nat.reduceLT, Nat.reduceLeDiff]
 refine hKK _ (hotspotlaw18_ReorderNames_S1 x111 x112 x113 x114) (Wk.canonD [] [] [] rfl trivial rfl tmO0 (tmAllU 8 (tmAllU 6 (tmAllU 4 (tmAllU 2 tmAll0 (Tm.v _)) (Tm.v _)) (Tm.v _)) (Tm.v _))) ?_; clear hKK KK
 unfold hotspotlaw18_ReorderNames_S1
 refine awp_nr [2,4,6,8] (fun _ => rfl) fun tz => ?_
 refine awp_regW fun KK hKK => ?_
 refine xw_id ?_
 obtain ⟨x115, bx115, h0⟩ := bnd h0
 try simp only [go_sem, Nat.reduceEqDiff, reduceIte, Nat.reduceAdd, Nat.reduceMul, Nat.reduceSub, Nat.reduceLT, Nat.reduceLeDiff]
 refine xcall_p (reorder_New_p 10 8 50 bx115) ?_; try dsimp only
 try refine xw_id ?_
 try simp only [go_sem, Nat.reduceEqDiff, reduceIte, Nat.reduceAdd, Nat.reduceMul, Nat.reduceSub, Nat.reduceLT, Nat.reduceLeDiff]
 refine hKK _ _ (Wk.refl _ _ _) ?_; clear hKK KK
 refine awp_nr [2,4,6,8,9,10] (fun _ => rfl) fun tz => ?_
 refine awp_regDW fun KK hKK all hall => ?_
 refine xd_id ?_
 try simp only [List.toList_toArray, List.map_cons, List.map_nil, List.size_toArray, List.length_cons, List.length_nil, Nat.zero_add]
 try simp only [Nat.reduceAdd]
 obtain ⟨x116, bx116, h0⟩ := bnd h0
 simp only [go_sem, Nat.reduceEqDiff, reduceIte, Nat.reduceMul, Nat.reduceSub, Nat.reduceLT, Nat.reduceLeDiff]
 try simp only [Nat.reduceAdd]
 try simp only [go_sem, Nat.reduceEqDiff, reduceIte, Nat.reduceMul, Nat.reduceSub, Nat.reduceLT, Nat.reduceLeDiff]
 try simp only [Nat.reduceAdd]
 try simp only [go_sem, Nat.reduceEqDiff, reduceIte, Nat.reduceMul, Nat.reduceSub, Nat.reduceLT, Nat.reduceLeDiff]
 refine xcallD_p (hotspotlaw18_frame_p 12 bx116) ?_; try dsimp only
 try refine xd_id ?_
 obtain ⟨x117, bx117, h0⟩ := bnd h0
 simp only [go_sem, Nat.reduceEqDiff, reduceIte, Nat.reduceMul, Nat.reduceSub, Nat.reduceLT, Nat.reduceLeDiff]
 try simp only [Nat.reduceAdd]
 try simp only [go_sem, Nat.reduceEqDiff, reduceIte, Nat.reduceMul, Nat.reduceSub, Nat.reduceLT, Nat.reduceLeDiff]
 try simp only [Nat.reduceAdd]
 try simp only [go_sem, Nat.reduceEqDiff, reduceIte, Nat.reduceMul, Nat.reduceSub, Nat.reduceLT, Nat.reduceLeDiff]
 refine xcallD_p (reorder_Put_p x115.1 x116 1 bx117) ?_; try dsimp only
 try refine xd_id ?_
 simp only [go_sem, Nat.reduceEqDiff, reduceIte, Nat.reduceMul, Nat.reduceSub, Nat.reduceLT, Nat.reduceLeDiff]
 try simp only [Nat.reduceAdd]
 try simp only [go_sem, Nat.reduceEqDiff, reduceIte, Nat.reduceMul, Nat.reduceSub, Nat.reduceLT, Nat.reduceLeDiff]
 try simp only [Nat.reduceAdd]
 try simp only [go_sem, Nat.reduceEqDiff, reduceIte, Nat.reduceMul, Nat.reduceSub, Nat.reduceLT, Nat.reduceLeDiff]
 refine And.intro ?_ (hKK _ (hotspotlaw18_ReorderNames_S2 x117 x111 x112 x113 x114 x115) (Wk.canonD [] [] [some 4] rfl trivial rfl (tmOU 0 tmO0 rfl List.not_mem_nil (by simp only [upd_get, Nat.reduceEqDiff, reduceIte, Nat.reduceAdd, Nat.reduceMul, Nat.reduceSub, Nat.reduceLT, Nat.reduceLeDiff, if_true, if_false] <;> rfl) (e_Reorder_tmx (by rfl) (Tm.clean (Clean.imm (c_HeldSeq _))))) (tmAllU 12 (tmAllU 10 (tmAllU 9 (tmAllU 8 (tmAllU 6 (tmAllU 4 (tmAllU 2 tmAll0 (Tm.v _)) (Tm.v _)) (Tm.v _)) (Tm.v _)) (Tm.ptr rfl)) (Tm.v _)) (Tm.v _))) ?_)
 ·
  subst hall
  clear hKK KK
  first | decide +kernel | (simp [printsOk, apartP, clash, meet]; done) | (simp [printsOk, apartP, clash, meet]; decide +kernel)
 ·
  clear hKK KK hall all
  unfold hotspotlaw18_ReorderNames_S2
  refine awp_nr [2,4,6,8,9,10,12] (fun _ => rfl) fun tz => ?_
  refine awp_regDW fun KK hKK all hall => ?_
  refine xd_id ?_
  try simp only [List.toList_toArray, List.map_cons, List.map_nil, List.size_toArray, List.length_cons, List.length_nil, Nat.zero_add]
  try simp only [Nat.reduceAdd]
  obtain ⟨x118, bx118, h0⟩ := bnd h0
  simp only [go_sem, Nat.reduceEqDiff, reduceIte, Nat.reduceMul, Nat.reduceSub, Nat.reduceLT, Nat.reduceLeDiff]
  try simp only [Nat.reduceAdd]
  try simp only [go_sem, Nat.reduceEqDiff, reduceIte, Nat.reduceMul, Nat.reduceSub, Nat.reduceLT, Nat.reduceLeDiff]
  try simp only [Nat.reduceAdd]
  try simp only [go_sem, Nat.reduceEqDiff, reduceIte, Nat.reduceMul, Nat.reduceSub, Nat.reduceLT, Nat.reduceLeDiff]
  refine xcallD_p (hotspotlaw18_frame_p 12 bx118) ?_; try dsimp only
  try refine xd_id ?_
  obtain ⟨x119, bx119, h0⟩ := bnd h0
  simp only [go_sem, Nat.reduceEqDiff, reduceIte, Nat.reduceMul, Nat.reduceSub, Nat.reduceLT, Nat.reduceLeDiff]
  try simp only [Nat.reduceAdd]
  try simp only [go_sem, Nat.reduceEqDiff, reduceIte, Nat.reduceMul, Nat.reduceSub, Nat.reduceLT, Nat.reduceLeDiff]
  try simp only [Nat.reduceAdd]
  try simp only [go_sem, Nat.reduceEqDiff, reduceIte, Nat.reduceMul, Nat.reduceSub, Nat.reduceLT, Nat.reduceLeDiff]
  refine xcallD_p (reorder_Put_p x117.2.1 x118 2 bx119) ?_; try dsimp only
  try refine xd_id ?_
  simp only [go_sem, Nat.reduceEqDiff, reduceIte, Nat.reduceMul, Nat.reduceSub, Nat.reduceLT, Nat.reduceLeDiff]
  try simp only [Nat.reduceAdd]
  try simp only [go_sem, Nat.reduceEqDiff, reduceIte, Nat.reduceMul, Nat.reduceSub, Nat.reduceLT, Nat.reduceLeDiff]
  try simp only [Nat.reduceAdd]
  try simp only [go_sem, Nat.reduceEqDiff, reduceIte, Nat.reduceMul, Nat.reduceSub, Nat.reduceLT, Nat.reduceLeDiff]
  refine And.intro ?_ (hKK _ (hotspotlaw18_ReorderNames_S3 x117 x111 x112 x113 x114 x115 x119) (Wk.canonD [] [] [some 0] rfl trivial rfl (tmOU 0 tmO0 rfl List.not_mem_nil (by simp only [upd_get, Nat.reduceEqDiff, reduceIte, Nat.reduceAdd, Nat.reduceMul, Nat.reduceSub, Nat.reduceLT, Nat.reduceLeDiff, if_true, if_false] <;> rfl) (e_Reorder_tmx (by rfl) (Tm.clean (Clean.imm (c_HeldSeq _))))) (tmAllU 15 (tmAllU 12 (tmAllU 10 (tmAllU 9 (tmAllU 8 (tmAllU 6 (tmAllU 4 (tmAllU 2 tmAll0 (Tm.v _)) (Tm.v _)) (Tm.v _)) (Tm.v _)) (Tm.ptr rfl)) (Tm.v _)) (Tm.v _)) (Tm.v _))) ?_)
  ·
   subst hall
   clear hKK KK
   first | decide +kernel | (simp [printsOk, apartP, clash, meet]; done) | (simp [printsOk, apartP, clash, meet]; decide +kernel)
  ·
   clear hKK KK hall all
   unfold hotspotlaw18_ReorderNames_S3
   refine awp_nr [2,4,6,8,9,10,12,15] (fun _ => rfl) fun tz => ?_
   refine awp_regDW fun KK hKK all hall => ?_
   refine xd_id ?_
   try simp only [List.toList_toArray, List.map_cons, List.map_nil, List.size_toArray, List.length_cons, List.length_nil, Nat.zero_add]
   try simp only [Nat.reduceAdd]
   obtain ⟨x120, bx120, h0⟩ := bnd h0
   simp only [go_sem, Nat.reduceEqDiff, reduceIte, Nat.reduceMul, Nat.reduceSub, Nat.reduceLT, Nat.reduceLeDiff]
   try simp only [Nat.reduceAdd]
   try simp only [go_sem, Nat.reduceEqDiff, reduceIte, Nat.reduceMul, Nat.reduceSub, Nat.reduceLT, Nat.reduceLeDiff]
   try simp only [Nat.reduceAdd]
   try simp only [go_sem, Nat.reduceEqDiff, reduceIte, Nat.reduceMul, Nat.reduceSub, Nat.reduceLT, Nat.reduceLeDiff]
   refine xcallD_p (hotspotlaw18_frame_p 9 bx120) ?_; try dsimp only
   try refine xd_id ?_
   obtain ⟨x121, bx121, h0⟩ := bnd h0
   simp only [go_sem, Nat.reduceEqDiff, reduceIte, Nat.reduceMul, Nat.reduceSub, Nat.reduceLT, Nat.reduceLeDiff]
   try simp only [Nat.reduceAdd]
   try simp only [go_sem, Nat.reduceEqDiff, reduceIte, Nat.reduceMul, Nat.reduceSub, Nat.reduceLT, Nat.reduceLeDiff]
   try simp only [Nat.reduceAdd]
   try simp only [go_sem, Nat.reduceEqDiff, reduceIte, Nat.reduceMul, Nat.reduceSub, Nat.reduceLT, Nat.reduceLeDiff]
   refine xcallD_p (reorder_Put_p x117.2.1 x120 2 bx121) ?_; try dsimp only
   try refine xd_id ?_
   simp only [go_sem, Nat.reduceEqDiff, reduceIte, Nat.reduceMul, Nat.reduceSub, Nat.reduceLT, Nat.reduceLeDiff]
   try simp only [Nat.reduceAdd]
   try simp only [go_sem, Nat.reduceEqDiff, reduceIte, Nat.reduceMul, Nat.reduceSub, Nat.reduceLT, Nat.reduceLeDiff]
   try simp only [Nat.reduceAdd]
   try simp only [go_sem, Nat.reduceEqDiff, reduceIte, Nat.reduceMul, Nat.reduceSub, Nat.reduceLT, Nat.reduceLeDiff]
   refine And.intro ?_ (hKK _ (hotspotlaw18_ReorderNames_S4 x117 x111 x112 x113 x114 x115 x119 x121) (Wk.canonD [] [] [some 0] rfl trivial rfl (tmOU 0 tmO0 rfl List.not_mem_nil (by simp only [upd_get, Nat.reduceEqDiff, reduceIte, Nat.reduceAdd, Nat.reduceMul, Nat.reduceSub, Nat.reduceLT, Nat.reduceLeDiff, if_true, if_false] <;> rfl) (e_Reorder_tmx (by rfl) (Tm.clean (Clean.imm (c_HeldSeq _))))) (tmAllU 18 (tmAllU 15 (tmAllU 12 (tmAllU 10 (tmAllU 9 (tmAllU 8 (tmAllU 6 (tmAllU 4 (tmAllU 2 tmAll0 (Tm.v _)) (Tm.v _)) (Tm.v _)) (Tm.v _)) (Tm.ptr rfl)) (Tm.v _)) (Tm.v _)) (Tm.v _)) (Tm.v _))) ?_)
   ·
    subst hall
    clear hKK KK
    first | decide +kernel | (simp [printsOk, apartP, clash, meet]; done) | (simp [printsOk, apartP, clash, meet]; decide +kernel)
   ·
    clear hKK KK hall all
    unfold hotspotlaw18_ReorderNames_S4
    refine awp_nr [2,4,6,8,9,10,12,15,18] (fun _ => rfl) fun tz => ?_
    refine awp_regDW fun KK hKK all hall => ?_
    refine xd_id ?_
    try simp only [List.toList_toArray, List.map_cons, List.map_nil, List.size_toArray, List.length_cons, List.length_nil, Nat.zero_add]
    try simp only [Nat.reduceAdd]
    obtain ⟨x122, bx122, h0⟩ := bnd h0
    simp only [go_sem, Nat.reduceEqDiff, reduceIte, Nat.reduceMul, Nat.reduceSub, Nat.reduceLT, Nat.reduceLeDiff]
    try simp only [Nat.reduceAdd]
    try simp only [go_sem, Nat.reduceEqDiff, reduceIte, Nat.reduceMul, Nat.reduceSub, Nat.reduceLT, Nat.reduceLeDiff]
    try simp only [Nat.reduceAdd]
    try simp only [go_sem, Nat.reduceEqDiff, reduceIte, Nat.reduceMul, Nat.reduceSub, Nat.reduceLT, Nat.reduceLeDiff]
    refine xcallD_p (hotspotlaw18_frame_p 2058 bx122) ?_; try dsimp only
    try refine xd_id ?_
    obtain ⟨x123, bx123, h0⟩ := bnd h0
    simp only [go_sem, Nat.reduceEqDiff, reduceIte, Nat.reduceMul, Nat.reduceSub, Nat.reduceLT, Nat.reduceLeDiff]
    try simp only [Nat.reduceAdd]
    try simp only [go_sem, Nat.reduceEqDiff, reduceIte, Nat.reduceMul, Nat.reduceSub, Nat.reduceLT, Nat.reduceLeDiff]
    try simp only [Nat.reduceAdd]
    try simp only [go_sem, Nat.reduceEqDiff, reduceIte, Nat.reduceMul, Nat.reduceSub, Nat.reduceLT, Nat.reduceLeDiff]
    refine xcallD_p (reorder_Put_p x117.2.1 x122 2 bx123) ?_; try dsimp only
    try refine xd_id ?_
    simp only [go_sem, Nat.reduceEqDiff, reduceIte, Nat.reduceMul, Nat.reduceSub, Nat.reduceLT, Nat.reduceLeDiff]
    try simp only [Nat.reduceAdd]
    try simp only [go_sem, Nat.reduceEqDiff, reduceIte, Nat.reduceMul, Nat.reduceSub, Nat.reduceLT, Nat.reduceLeDiff]
    try simp only [Nat.reduceAdd]
    try simp only [go_sem, Nat.reduceEqDiff, reduceIte, Nat.reduceMul, Nat.reduceSub, Nat.reduceLT, Nat.reduceLeDiff]
    refine And.intro ?_ (hKK _ (hotspotlaw18_ReorderNames_S5 x117 x111 x112 x113 x114 x115 x119 x121 x123) (Wk.canonD [] [] [some 0] rfl trivial rfl (tmOU 0 tmO0 rfl List.not_mem_nil (by simp only [upd_get, Nat.reduceEqDiff, reduceIte, Nat.reduceAdd, Nat.reduceMul, Nat.reduceSub, Nat.reduceLT, Nat.reduceLeDiff, if_true, if_false] <;> rfl) (e_Reorder_tmx (by rfl) (Tm.clean (Clean.imm (c_HeldSeq _))))) (tmAllU 21 (tmAllU 18 (tmAllU 15 (tmAllU 12 (tmAllU 10 (tmAllU 9 (tmAllU 8 (tmAllU 6 (tmAllU 4 (tmAllU 2 tmAll0 (Tm.v _)) (Tm.v _)) (Tm.v _)) (Tm.v _)) (Tm.ptr rfl)) (Tm.v _)) (Tm.v _)) (Tm.v _)) (Tm.v _)) (Tm.v _))) ?_)
    ·
     subst hall
     clear hKK KK
     first | decide +kernel | (simp [printsOk, apartP, clash, meet]; done) | (simp [printsOk, apartP, clash, meet]; decide +kernel)
    ·
     clear hKK KK hall all
     unfold hotspotlaw18_ReorderNames_S5
     refine awp_nr [2,4,6,8,9,10,12,15,18,21] (fun _ => rfl) fun tz => ?_
     refine awp_regDW fun KK hKK all hall => ?_
     refine xd_id ?_
     try simp only [List.toList_toArray, List.map_cons, List.map_nil, List.size_toArray, List.length_cons, List.length_nil, Nat.zero_add]
     try simp only [Nat.reduceAdd]
     obtain ⟨x124, bx124, h0⟩ := bnd h0
     simp only [go_sem, Nat.reduceEqDiff, reduceIte, Nat.reduceMul, Nat.reduceSub, Nat.reduceLT, Nat.reduceLeDiff]
     try simp only [Nat.reduceAdd]
     try simp only [go_sem, Nat.reduceEqDiff, reduceIte, Nat.reduceMul, Nat.reduceSub, Nat.reduceLT, Nat.reduceLeDiff]
     try simp only [Nat.reduceAdd]
     try simp only [go_sem, Nat.reduceEqDiff, reduceIte, Nat.reduceMul, Nat.reduceSub, Nat.reduceLT, Nat.reduceLeDiff]
     refine xcallD_p (hotspotlaw18_frame_p 2057 bx124) ?_; try dsimp only
     try refine xd_id ?_
     obtain ⟨x125, bx125, h0⟩ := bnd h0
     simp only [go_sem, Nat.reduceEqDiff, reduceIte, Nat.reduceMul, Nat.reduceSub, Nat.reduceLT, Nat.reduceLeDiff]
     try simp only [Nat.reduceAdd]
     try simp only [go_sem, Nat.reduceEqDiff, reduceIte, Nat.reduceMul, Nat.reduceSub, Nat.reduceLT, Nat.reduceLeDiff]
     try simp only [Nat.reduceAdd]
     try simp only [go_sem, Nat.reduceEqDiff, reduceIte, Nat.reduceMul, Nat.reduceSub, Nat.reduceLT, Nat.reduceLeDiff]
     refine xcallD_p (reorder_Put_p x117.2.1 x124 2 bx125) ?_; try dsimp only
     try refine xd_id ?_
     simp only [go_sem, Nat.reduceEqDiff, reduceIte, Nat.reduceMul, Nat.reduceSub, Nat.reduceLT, Nat.reduceLeDiff]
     try simp only [Nat.reduceAdd]
     try simp only [go_sem, Nat.reduceEqDiff, reduceIte, Nat.reduceMul, Nat.reduceSub, Nat.reduceLT, Nat.reduceLeDiff]
     try simp only [Nat.reduceAdd]
     try simp only [go_sem, Nat.reduceEqDiff, reduceIte, Nat.reduceMul, Nat.reduceSub, Nat.reduceLT, Nat.reduceLeDiff]
     refine And.intro ?_ (hKK _ (hotspotlaw18_ReorderNames_S6 x117 x125 x111 x112 x113 x114 x115 x119 x121 x123) (Wk.canonD [] [] [some 0, some 8] rfl trivial rfl (tmOU 1 (tmOU 0 tmO0 rfl List.not_mem_nil (by simp only [upd_get, Nat.reduceEqDiff, reduceIte, Nat.reduceAdd, Nat.reduceMul, Nat.reduceSub, Nat.reduceLT, Nat.reduceLeDiff, if_true, if_false] <;> rfl) (e_Reorder_tmx (by rfl) (Tm.clean (Clean.imm (c_HeldSeq _))))) rfl List.not_mem_nil (by simp only [upd_get, Nat.reduceEqDiff, reduceIte, Nat.reduceAdd, Nat.reduceMul, Nat.reduceSub, Nat.reduceLT, Nat.reduceLeDiff, if_true, if_false] <;> rfl) (e_Reorder_tmx (by rfl) (Tm.clean (Clean.imm (c_HeldSeq _))))) (tmAllU 24 (tmAllU 23 (tmAllU 22 (tmAllU 21 (tmAllU 18 (tmAllU 15 (tmAllU 12 (tmAllU 10 (tmAllU 9 (tmAllU 8 (tmAllU 6 (tmAllU 4 (tmAllU 2 tmAll0 (Tm.v _)) (Tm.v _)) (Tm.v _)) (Tm.v _)) (Tm.ptr rfl)) (Tm.v _)) (Tm.v _)) (Tm.v _)) (Tm.v _)) (Tm.v _)) (Tm.clean (Clean.imm (c_Frame _)))) (Tm.ptr rfl)) (Tm.v _))) ?_)
     ·
      subst hall
      clear hKK KK
      first | decide +kernel | (simp [printsOk, apartP, clash, meet]; done) | (simp [printsOk, apartP, clash, meet]; decide +kernel)
     ·
      clear hKK KK hall all
      unfold hotspotlaw18_ReorderNames_S6
      refine awp_nr [2,4,6,8,9,10,12,15,18,21,22,23,24] (fun _ => rfl) fun tz => ?_
      refine awp_regDW fun KK hKK all hall => ?_
      refine xd_id ?_
      try simp only [List.toList_toArray, List.map_cons, List.map_nil, List.size_toArray, List.length_cons, List.length_nil, Nat.zero_add]
      try simp only [Nat.reduceAdd]
      obtain ⟨x126, bx126, h0⟩ := bnd h0
      simp only [go_sem, Nat.reduceEqDiff, reduceIte, Nat.reduceMul, Nat.reduceSub, Nat.reduceLT, Nat.reduceLeDiff]
      try simp only [Nat.reduceAdd]
      try simp only [go_sem, Nat.reduceEqDiff, reduceIte, Nat.reduceMul, Nat.reduceSub, Nat.reduceLT, Nat.reduceLeDiff]
      try simp only [Nat.reduceAdd]
      try simp only [go_sem, Nat.reduceEqDiff, reduceIte, Nat.reduceMul, Nat.reduceSub, Nat.reduceLT, Nat.reduceLeDiff]
      refine xcallD_p (hotspotlaw18_frame_p 4096 bx126) ?_; try dsimp only
      try refine xd_id ?_
      obtain ⟨x127, bx127, h0⟩ := bnd h0
      simp only [go_sem, Nat.reduceEqDiff, reduceIte, Nat.reduceMul, Nat.reduceSub, Nat.reduceLT, Nat.reduceLeDiff]
      try simp only [Nat.reduceAdd]
      try simp only [go_sem, Nat.reduceEqDiff, reduceIte, Nat.reduceMul, Nat.reduceSub, Nat.reduceLT, Nat.reduceLeDiff]
      try simp only [Nat.reduceAdd]
      try simp only [go_sem, Nat.reduceEqDiff, reduceIte, Nat.reduceMul, Nat.reduceSub, Nat.reduceLT, Nat.reduceLeDiff]
      refine xcallD_p (reorder_Put_p x117.2.1 x126 2 bx127) ?_; try dsimp only
      try refine xd_id ?_
      simp only [go_sem, Nat.reduceEqDiff, reduceIte, Nat.reduceMul, Nat.reduceSub, Nat.reduceLT, Nat.reduceLeDiff]
      try simp only [Nat.reduceAdd]
      try simp only [go_sem, Nat.reduceEqDiff, reduceIte, Nat.reduceMul, Nat.reduceSub, Nat.reduceLT, Nat.reduceLeDiff]
      try simp only [Nat.reduceAdd]
      try simp only [go_sem, Nat.reduceEqDiff, reduceIte, Nat.reduceMul, Nat.reduceSub, Nat.reduceLT, Nat.reduceLeDiff]
      refine And.intro ?_ (hKK _ (hotspotlaw18_ReorderNames_S7 x117 x125 x111 x112 x113 x114 x115 x119 x121 x123 x127) (Wk.canonD [] [] [some 0, some 1] rfl trivial rfl (tmOU 1 (tmOU 0 tmO0 rfl List.not_mem_nil (by simp only [upd_get, Nat.reduceEqDiff, reduceIte, Nat.reduceAdd, Nat.reduceMul, Nat.reduceSub, Nat.reduceLT, Nat.reduceLeDiff, if_true, if_false] <;> rfl) (e_Reorder_tmx (by rfl) (Tm.clean (Clean.imm (c_HeldSeq _))))) rfl List.not_mem_nil (by simp only [upd_get, Nat.reduceEqDiff, reduceIte, Nat.reduceAdd, Nat.reduceMul, Nat.reduceSub, Nat.reduceLT, Nat.reduceLeDiff, if_true, if_false] <;> rfl) (e_Reorder_tmx (by rfl) (Tm.clean (Clean.imm (c_HeldSeq _))))) (tmAllU 27 (tmAllU 24 (tmAllU 23 (tmAllU 22 (tmAllU 21 (tmAllU 18 (tmAllU 15 (tmAllU 12 (tmAllU 10 (tmAllU 9 (tmAllU 8 (tmAllU 6 (tmAllU 4 (tmAllU 2 tmAll0 (Tm.v _)) (Tm.v _)) (Tm.v _)) (Tm.v _)) (Tm.ptr rfl)) (Tm.v _)) (Tm.v _)) (Tm.v _)) (Tm.v _)) (Tm.v _)) (Tm.clean (Clean.imm (c_Frame _)))) (Tm.ptr rfl)) (Tm.v _)) (Tm.v _))) ?_)
      ·
       subst hall
       clear hKK KK
       first | decide +kernel | (simp [printsOk, apartP, clash, meet]; done) | (simp [printsOk, apartP, clash, meet]; decide +kernel)
      ·
       clear hKK KK hall all
       unfold hotspotlaw18_ReorderNames_S7
       refine awp_nr [2,4,6,8,9,10,12,15,18,21,22,23,24,27] (fun _ => rfl) fun tz => ?_
       refine awp_regDW fun KK hKK all hall => ?_
       refine xd_id ?_
       try simp only [List.toList_toArray, List.map_cons, List.map_nil, List.size_toArray, List.length_cons, List.length_nil, Nat.zero_add]
       try simp only [Nat.reduceAdd]
       obtain ⟨x128, bx128, h0⟩ := bnd h0
       simp only [go_sem, Nat.reduceEqDiff, reduceIte, Nat.reduceMul, Nat.reduceSub, Nat.reduceLT, Nat.reduceLeDiff]
       try simp only [Nat.reduceAdd]
       try simp only [go_sem, Nat.reduceEqDiff, reduceIte, Nat.reduceMul, Nat.reduceSub, Nat.reduceLT, Nat.reduceLeDiff]
       try simp only [Nat.reduceAdd]
       try simp only [go_sem, Nat.reduceEqDiff, reduceIte, Nat.reduceMul, Nat.reduceSub, Nat.reduceLT, Nat.reduceLeDiff]
       refine xcallD_p (hotspotlaw18_frame_p 13 bx128) ?_; try dsimp only
       try refine xd_id ?_
       obtain ⟨x129, bx129, h0⟩ := bnd h0
       simp only [go_sem, Nat.reduceEqDiff, reduceIte, Nat.reduceMul, Nat.reduceSub, Nat.reduceLT, Nat.reduceLeDiff]
       try simp only [Nat.reduceAdd]
       try simp only [go_sem, Nat.reduceEqDiff, reduceIte, Nat.reduceMul, Nat.reduceSub, Nat.reduceLT, Nat.reduceLeDiff]
       try simp only [Nat.reduceAdd]
       try simp only [go_sem, Nat.reduceEqDiff, reduceIte, Nat.reduceMul, Nat.reduceSub, Nat.reduceLT, Nat.reduceLeDiff]
       refine xcallD_p (reorder_Put_p x117.2.1 x128 (-1) bx129) ?_; try dsimp only
       try refine xd_id ?_
       simp only [go_sem, Nat.reduceEqDiff, reduceIte, Nat.reduceMul, Nat.reduceSub, Nat.reduceLT, Nat.reduceLeDiff]
       try simp only [Nat.reduceAdd]
       try simp only [go_sem, Nat.reduceEqDiff, reduceIte, Nat.reduceMul, Nat.reduceSub, Nat.reduceLT, Nat.reduceLeDiff]
       try simp only [Nat.reduceAdd]
       try simp only [go_sem, Nat.reduceEqDiff, reduceIte, Nat.reduceMul, Nat.reduceSub, Nat.reduceLT, Nat.reduceLeDiff]
       refine And.intro ?_ (hKK _ (hotspotlaw18_ReorderNames_S8 x117 x125 x111 x112 x113 x114 x115 x119 x121 x123 x127 x129) (Wk.canonD [] [] [some 0, some 1] rfl trivial rfl (tmOU 1 (tmOU 0 tmO0 rfl List.not_mem_nil (by simp only [upd_get, Nat.reduceEqDiff, reduceIte, Nat.reduceAdd, Nat.reduceMul, Nat.reduceSub, Nat.reduceLT, Nat.reduceLeDiff, if_true, if_false] <;> rfl) (e_Reorder_tmx (by rfl) (Tm.clean (Clean.imm (c_HeldSeq _))))) rfl List.not_mem_nil (by simp only [upd_get, Nat.reduceEqDiff, reduceIte, Nat.reduceAdd, Nat.reduceMul, Nat.reduceSub, Nat.reduceLT, Nat.reduceLeDiff, if_true, if_false] <;> rfl) (e_Reorder_tmx (by rfl) (Tm.clean (Clean.imm (c_HeldSeq _))))) (tmAllU 30 (tmAllU 27 (tmAllU 24 (tmAllU 23 (tmAllU 22 (tmAllU 21 (tmAllU 18 (tmAllU 15 (tmAllU 12 (tmAllU 10 (tmAllU 9 (tmAllU 8 (tmAllU 6 (tmAllU 4 (tmAllU 2 tmAll0 (Tm.v _)) (Tm.v _)) (Tm.v _)) (Tm.v _)) (Tm.ptr rfl)) (Tm.v _)) (Tm.v _)) (Tm.v _)) (Tm.v _)) (Tm.v _)) (Tm.clean (Clean.imm (c_Frame _)))) (Tm.ptr rfl)) (Tm.v _)) (Tm.v _)) (Tm.v _))) ?_)
       ·
        subst hall
        clear hKK KK
        first | decide +kernel | (simp [printsOk, apartP, clash, meet]; done) | (simp [printsOk, apartP, clash, meet]; decide +kernel)
       ·
        clear hKK KK hall all
        unfold hotspotlaw18_ReorderNames_S8
        refine awp_nr [2,4,6,8,9,10,12,15,18,21,22,23,24,27,30] (fun _ => rfl) fun tz => ?_
        refine awp_regW fun KK hKK => ?_
        refine xw_id ?_
        obtain ⟨x130, bx130, h0⟩ := bnd h0
        try simp only [go_sem, Nat.reduceEqDiff, reduceIte, Nat.reduceAdd, Nat.reduceMul, Nat.reduceSub, Nat.reduceLT, Nat.reduceLeDiff]
        refine xcall_p (hotspotlaw18_frame_p 4096 bx130) ?_; try dsimp only
        try refine xw_id ?_
        obtain ⟨x131, bx131, h0⟩ := bnd h0
        try simp only [go_sem, Nat.reduceEqDiff, reduceIte, Nat.reduceAdd, Nat.reduceMul, Nat.reduceSub, Nat.reduceLT, Nat.reduceLeDiff]
        refine xcall_N (by first | (simp only [go_sem, fz, nilS, cond_true, cond_false, Nat.reduceEqDiff, reduceIte, Nat.reduceAdd, Nat.reduceMul, Nat.reduceSub, Nat.reduceLT, Nat.reduceLeDiff]; done) | (simp only [go_sem, fz, nilS, cond_true, cond_false, Nat.reduceEqDiff, reduceIte, Nat.reduceAdd, Nat.reduceMul, Nat.reduceSub, Nat.reduceLT, Nat.reduceLeDiff]; rfl)) (reorder_Put_p Reorder.z x130 (-1) bx131) ?_; try dsimp only
        try refine xw_id ?_
        try simp only [go_sem, Nat.reduceEqDiff, reduceIte, Nat.reduceAdd, Nat.reduceMul, Nat.reduceSub, Nat.reduceLT, Nat.reduceLeDiff]
        refine hKK _ (hotspotlaw18_ReorderNames_S9 x117 x125 x111 x112 x113 x114 x115 x119 x121 x123 x127 x129 x131) (Wk.canonD [] [] [some 0, some 1] rfl trivial rfl (tmOU 1 (tmOU 0 tmO0 rfl List.not_mem_nil (by simp only [upd_get, Nat.reduceEqDiff, reduceIte, Nat.reduceAdd, Nat.reduceMul, Nat.reduceSub, Nat.reduceLT, Nat.reduceLeDiff, if_true, if_false] <;> rfl) (e_Reorder_tmx (by rfl) (Tm.clean (Clean.imm (c_HeldSeq _))))) rfl List.not_mem_nil (by simp only [upd_get, Nat.reduceEqDiff, reduceIte, Nat.reduceAdd, Nat.reduceMul, Nat.reduceSub, Nat.reduceLT, Nat.reduceLeDiff, if_true, if_false] <;> rfl) (e_Reorder_tmx (by rfl) (Tm.clean (Clean.imm (c_HeldSeq _))))) (tmAllU 33 (tmAllU 30 (tmAllU 27 (tmAllU 24 (tmAllU 23 (tmAllU 22 (tmAllU 21 (tmAllU 18 (tmAllU 15 (tmAllU 12 (tmAllU 10 (tmAllU 9 (tmAllU 8 (tmAllU 6 (tmAllU 4 (tmAllU 2 tmAll0 (Tm.v _)) (Tm.v _)) (Tm.v _)) (Tm.v _)) (Tm.ptr rfl)) (Tm.v _)) (Tm.v _)) (Tm.v _)) (Tm.v _)) (Tm.v _)) (Tm.clean (Clean.imm (c_Frame _)))) (Tm.ptr rfl)) (Tm.v _)) (Tm.v _)) (Tm.v _)) (Tm.v _))) ?_; clear hKK KK
        unfold hotspotlaw18_ReorderNames_S9
        refine awp_nr [2,4,6,8,9,10,12,15,18,21,22,23,24,27,30,33] (fun _ => rfl) fun tz => ?_
        refine awp_regW fun KK hKK => ?_
        refine xw_id ?_
        obtain ⟨x132, bx132, h0⟩ := bnd h0
        try simp only [go_sem, Nat.reduceEqDiff, reduceIte, Nat.reduceAdd, Nat.reduceMul, Nat.reduceSub, Nat.reduceLT, Nat.reduceLeDiff]
        refine xcall_p (reorder_Bar_p x117.2.1 9 bx132) ?_; try dsimp only
        try refine xw_id ?_
        try simp only [go_sem, Nat.reduceEqDiff, reduceIte, Nat.reduceAdd, Nat.reduceMul, Nat.reduceSub, Nat.reduceLT, Nat.reduceLeDiff]
        refine hKK _ _ (Wk.refl _ _ _) ?_; clear hKK KK
        refine awp_nr [2,4,6,8,9,10,12,15,18,21,22,23,24,27,30,33,34,35,36] (fun _ => rfl) fun tz => ?_
        refine awp_regW fun KK hKK => ?_
        refine xw_id ?_
        obtain ⟨x133, bx133, h0⟩ := bnd h0
        try simp only [go_sem, Nat.reduceEqDiff, reduceIte, Nat.reduceAdd, Nat.reduceMul, Nat.reduceSub, Nat.reduceLT, Nat.reduceLeDiff]
        refine xcall_p (reorder_Bar_p x117.2.1 11 bx133) ?_; try dsimp only
        try refine xw_id ?_
        try simp only [go_sem, Nat.reduceEqDiff, reduceIte, Nat.reduceAdd, Nat.reduceMul, Nat.reduceSub, Nat.reduceLT, Nat.reduceLeDiff]
        refine hKK _ (hotspotlaw18_ReorderNames_S10 x117 x125 x132 x133 x111 x112 x113 x114 x115 x119 x121 x123 x127 x129 x131) (Wk.canonD [] [] [some 0, some 1, some 8, some 18] rfl trivial rfl (tmOU 3 (tmOU 2 (tmOU 1 (tmOU 0 tmO0 rfl List.not_mem_nil (by simp only [upd_get, Nat.reduceEqDiff, reduceIte, Nat.reduceAdd, Nat.reduceMul, Nat.reduceSub, Nat.reduceLT, Nat.reduceLeDiff, if_true, if_false] <;> rfl) (e_Reorder_tmx (by rfl) (Tm.clean (Clean.imm (c_HeldSeq _))))) rfl List.not_mem_nil (by simp only [upd_get, Nat.reduceEqDiff, reduceIte, Nat.reduceAdd, Nat.reduceMul, Nat.reduceSub, Nat.reduceLT, Nat.reduceLeDiff, if_true, if_false] <;> rfl) (e_Reorder_tmx (by rfl) (Tm.clean (Clean.imm (c_HeldSeq _))))) rfl List.not_mem_nil (by simp only [upd_get, Nat.reduceEqDiff, reduceIte, Nat.reduceAdd, Nat.reduceMul, Nat.reduceSub, Nat.reduceLT, Nat.reduceLeDiff, if_true, if_false] <;> rfl) (e_Reorder_tmx (by rfl) (Tm.clean (Clean.imm (c_HeldSeq _))))) rfl List.not_mem_nil (by simp only [upd_get, Nat.reduceEqDiff, reduceIte, Nat.reduceAdd, Nat.reduceMul, Nat.reduceSub, Nat.reduceLT, Nat.reduceLeDiff, if_true, if_false] <;> rfl) (e_Reorder_tmx (by rfl) (Tm.clean (Clean.imm (c_HeldSeq _))))) (tmAllU 39 (tmAllU 38 (tmAllU 37 (tmAllU 36 (tmAllU 35 (tmAllU 34 (tmAllU 33 (tmAllU 30 (tmAllU 27 (tmAllU 24 (tmAllU 23 (tmAllU 22 (tmAllU 21 (tmAllU 18 (tmAllU 15 (tmAllU 12 (tmAllU 10 (tmAllU 9 (tmAllU 8 (tmAllU 6 (tmAllU 4 (tmAllU 2 tmAll0 (Tm.v _)) (Tm.v _)) (Tm.v _)) (Tm.v _)) (Tm.ptr rfl)) (Tm.v _)) (Tm.v _)) (Tm.v _)) (Tm.v _)) (Tm.v _)) (Tm.clean (Clean.imm (c_Frame _)))) (Tm.ptr rfl)) (Tm.v _)) (Tm.v _)) (Tm.v _)) (Tm.v _)) (Tm.clean (Clean.imm (c_Frame _)))) (Tm.ptr rfl)) (Tm.v _)) (Tm.clean (Clean.imm (c_Frame _)))) (Tm.ptr rfl)) (Tm.v _))) ?_; clear hKK KK
        unfold hotspotlaw18_ReorderNames_S10
        refine awp_nr [2,4,6,8,9,10,12,15,18,21,22,23,24,27,30,33,34,35,36,37,38,39] (fun _ => rfl) fun tz => ?_
        refine awp_regW fun KK hKK => ?_
        refine xw_id ?_
        obtain ⟨x134, bx134, h0⟩ := bnd h0
        try simp only [go_sem, Nat.reduceEqDiff, reduceIte, Nat.reduceAdd, Nat.reduceMul, Nat.reduceSub, Nat.reduceLT, Nat.reduceLeDiff]
        refine xcall_p (reorder_Bar_p x117.2.1 (-1) bx134) ?_; try dsimp only
        try refine xw_id ?_
        try simp only [go_sem, Nat.reduceEqDiff, reduceIte, Nat.reduceAdd, Nat.reduceMul, Nat.reduceSub, Nat.reduceLT, Nat.reduceLeDiff]
        refine hKK _ _ (Wk.refl _ _ _) ?_; clear hKK KK
        refine awp_nr [2,4,6,8,9,10,12,15,18,21,22,23,24,27,30,33,34,35,36,37,38,39,42] (fun _ => rfl) fun tz => ?_
        refine awp_regW fun KK hKK => ?_
        refine xw_id ?_
        obtain ⟨x135, bx135, h0⟩ := bnd h0
        try simp only [go_sem, Nat.reduceEqDiff, reduceIte, Nat.reduceAdd, Nat.reduceMul, Nat.reduceSub, Nat.reduceLT, Nat.reduceLeDiff]
        refine xcall_p (reorder_Expire_p x117.2.1 50 bx135) ?_; try dsimp only
        try refine xw_id ?_
        try simp only [go_sem, Nat.reduceEqDiff, reduceIte, Nat.reduceAdd, Nat.reduceMul, Nat.reduceSub, Nat.reduceLT, Nat.reduceLeDiff]
        refine hKK _ (hotspotlaw18_ReorderNames_S11 x117 x125 x132 x133 x111 x112 x113 x114 x115 x119 x121 x123 x127 x129 x131 x134 x135) (Wk.canonD [] [] [some 0, some 1, some 2, some 3] rfl trivial rfl (tmOU 3 (tmOU 2 (tmOU 1 (tmOU 0 tmO0 rfl List.not_mem_nil (by simp only [upd_get, Nat.reduceEqDiff, reduceIte, Nat.reduceAdd, Nat.reduceMul, Nat.reduceSub, Nat.reduceLT, Nat.reduceLeDiff, if_true, if_false] <;> rfl) (e_Reorder_tmx (by rfl) (Tm.clean (Clean.imm (c_HeldSeq _))))) rfl List.not_mem_nil (by simp only [upd_get, Nat.reduceEqDiff, reduceIte, Nat.reduceAdd, Nat.reduceMul, Nat.reduceSub, Nat.reduceLT, Nat.reduceLeDiff, if_true, if_false] <;> rfl) (e_Reorder_tmx (by rfl) (Tm.clean (Clean.imm (c_HeldSeq _))))) rfl List.not_mem_nil (by simp only [upd_get, Nat.reduceEqDiff, reduceIte, Nat.reduceAdd, Nat.reduceMul, Nat.reduceSub, Nat.reduceLT, Nat.reduceLeDiff, if_true, if_false] <;> rfl) (e_Reorder_tmx (by rfl) (Tm.clean (Clean.imm (c_HeldSeq _))))) rfl List.not_mem_nil (by simp only [upd_get, Nat.reduceEqDiff, reduceIte, Nat.reduceAdd, Nat.reduceMul, Nat.reduceSub, Nat.reduceLT, Nat.reduceLeDiff, if_true, if_false] <;> rfl) (e_Reorder_tmx (by rfl) (Tm.clean (Clean.imm (c_HeldSeq _))))) (tmAllU 45 (tmAllU 43 (tmAllU 42 (tmAllU 39 (tmAllU 38 (tmAllU 37 (tmAllU 36 (tmAllU 35 (tmAllU 34 (tmAllU 33 (tmAllU 30 (tmAllU 27 (tmAllU 24 (tmAllU 23 (tmAllU 22 (tmAllU 21 (tmAllU 18 (tmAllU 15 (tmAllU 12 (tmAllU 10 (tmAllU 9 (tmAllU 8 (tmAllU 6 (tmAllU 4 (tmAllU 2 tmAll0 (Tm.v _)) (Tm.v _)) (Tm.v _)) (Tm.v _)) (Tm.ptr rfl)) (Tm.v _)) (Tm.v _)) (Tm.v _)) (Tm.v _)) (Tm.v _)) (Tm.clean (Clean.imm (c_Frame _)))) (Tm.ptr rfl)) (Tm.v _)) (Tm.v _)) (Tm.v _)) (Tm.v _)) (Tm.clean (Clean.imm (c_Frame _)))) (Tm.ptr rfl)) (Tm.v _)) (Tm.clean (Clean.imm (c_Frame _)))) (Tm.ptr rfl)) (Tm.v _)) (Tm.v _)) (Tm.clean (Clean.imm (c_Frame _)))) (Tm.v _))) ?_; clear hKK KK
        unfold hotspotlaw18_ReorderNames_S11
        refine awp_nr [2,4,6,8,9,10,12,15,18,21,22,23,24,27,30,33,34,35,36,37,38,39,42,43,45] (fun _ => rfl) fun tz => ?_
        refine awp_regW fun KK hKK => ?_
        refine xw_id ?_
        obtain ⟨x136, bx136, h0⟩ := bnd h0
        try simp only [go_sem, Nat.reduceEqDiff, reduceIte, Nat.reduceAdd, Nat.reduceMul, Nat.reduceSub, Nat.reduceLT, Nat.reduceLeDiff]
        refine xcall_p (reorder_Expire_p x117.2.1 (-1) bx136) ?_; try dsimp only
        try refine xw_id ?_
        try simp only [go_sem, Nat.reduceEqDiff, reduceIte, Nat.reduceAdd, Nat.reduceMul, Nat.reduceSub, Nat.reduceLT, Nat.reduceLeDiff]
        refine hKK _ _ (Wk.refl _ _ _) ?_; clear hKK KK
        refine awp_nr [2,4,6,8,9,10,12,15,18,21,22,23,24,27,30,33,34,35,36,37,38,39,42,43,45,48] (fun _ => rfl) fun tz => ?_
        refine awp_regW fun KK hKK => ?_
        refine xw_id ?_
        obtain ⟨x137, bx137, h0⟩ := bnd h0
        try simp only [go_sem, Nat.reduceEqDiff, reduceIte, Nat.reduceAdd, Nat.reduceMul, Nat.reduceSub, Nat.reduceLT, Nat.reduceLeDiff]
        refine xcall_p (reorder_Report_p x117.2.1 bx137) ?_; try dsimp only
        try refine xw_id ?_
        try simp only [go_sem, Nat.reduceEqDiff, reduceIte, Nat.reduceAdd, Nat.reduceMul, Nat.reduceSub, Nat.reduceLT, Nat.reduceLeDiff]
        refine hKK _ (hotspotlaw18_ReorderNames_S12 x117 x125 x132 x133 x137 x111 x112 x113 x114 x115 x119 x121 x123 x127 x129 x131 x134 x135 x136) (Wk.canonD [] [] [some 0, some 1, some 2, some 3, some 19] rfl trivial rfl (tmOU 4 (tmOU 3 (tmOU 2 (tmOU 1 (tmOU 0 tmO0 rfl List.not_mem_nil (by simp only [upd_get, Nat.reduceEqDiff, reduceIte, Nat.reduceAdd, Nat.reduceMul, Nat.reduceSub, Nat.reduceLT, Nat.reduceLeDiff, if_true, if_false] <;> rfl) (e_Reorder_tmx (by rfl) (Tm.clean (Clean.imm (c_HeldSeq _))))) rfl List.not_mem_nil (by simp only [upd_get, Nat.reduceEqDiff, reduceIte, Nat.reduceAdd, Nat.reduceMul, Nat.reduceSub, Nat.reduceLT, Nat.reduceLeDiff, if_true, if_false] <;> rfl) (e_Reorder_tmx (by rfl) (Tm.clean (Clean.imm (c_HeldSeq _))))) rfl List.not_mem_nil (by simp only [upd_get, Nat.reduceEqDiff, reduceIte, Nat.reduceAdd, Nat.reduceMul, Nat.reduceSub, Nat.reduceLT, Nat.reduceLeDiff, if_true, if_false] <;> rfl) (e_Reorder_tmx (by rfl) (Tm.clean (Clean.imm (c_HeldSeq _))))) rfl List.not_mem_nil (by simp only [upd_get, Nat.reduceEqDiff, reduceIte, Nat.reduceAdd, Nat.reduceMul, Nat.reduceSub, Nat.reduceLT, Nat.reduceLeDiff, if_true, if_false] <;> rfl) (e_Reorder_tmx (by rfl) (Tm.clean (Clean.imm (c_HeldSeq _))))) rfl List.not_mem_nil (by simp only [upd_get, Nat.reduceEqDiff, reduceIte, Nat.reduceAdd, Nat.reduceMul, Nat.reduceSub, Nat.reduceLT, Nat.reduceLeDiff, if_true, if_false] <;> rfl) (TmL.clean (e_Window_clean _))) (tmAllU 50 (tmAllU 49 (tmAllU 48 (tmAllU 45 (tmAllU 43 (tmAllU 42 (tmAllU 39 (tmAllU 38 (tmAllU 37 (tmAllU 36 (tmAllU 35 (tmAllU 34 (tmAllU 33 (tmAllU 30 (tmAllU 27 (tmAllU 24 (tmAllU 23 (tmAllU 22 (tmAllU 21 (tmAllU 18 (tmAllU 15 (tmAllU 12 (tmAllU 10 (tmAllU 9 (tmAllU 8 (tmAllU 6 (tmAllU 4 (tmAllU 2 tmAll0 (Tm.v _)) (Tm.v _)) (Tm.v _)) (Tm.v _)) (Tm.ptr rfl)) (Tm.v _)) (Tm.v _)) (Tm.v _)) (Tm.v _)) (Tm.v _)) (Tm.clean (Clean.imm (c_Frame _)))) (Tm.ptr rfl)) (Tm.v _)) (Tm.v _)) (Tm.v _)) (Tm.v _)) (Tm.clean (Clean.imm (c_Frame _)))) (Tm.ptr rfl)) (Tm.v _)) (Tm.clean (Clean.imm (c_Frame _)))) (Tm.ptr rfl)) (Tm.v _)) (Tm.v _)) (Tm.clean (Clean.imm (c_Frame _)))) (Tm.v _)) (Tm.v _)) (Tm.ptr rfl)) (Tm.v _))) ?_; clear hKK KK
        unfold hotspotlaw18_ReorderNames_S12
        refine awp_nr [2,4,6,8,9,10,12,15,18,21,22,23,24,27,30,33,34,35,36,37,38,39,42,43,45,48,49,50] (fun _ => rfl) fun tz => ?_
        refine awp_regW fun KK hKK => ?_
        refine xw_id ?_
        obtain ⟨x138, bx138, h0⟩ := bnd h0
        try simp only [go_sem, Nat.reduceEqDiff, reduceIte, Nat.reduceAdd, Nat.reduceMul, Nat.reduceSub, Nat.reduceLT, Nat.reduceLeDiff]
        refine xcall_p (hotspotlaw18_frame_p 0 bx138) ?_; try dsimp only
        try refine xw_id ?_
        obtain ⟨x139, bx139, h0⟩ := bnd h0
        try simp only [go_sem, Nat.reduceEqDiff, reduceIte, Nat.reduceAdd, Nat.reduceMul, Nat.reduceSub, Nat.reduceLT, Nat.reduceLeDiff]
        refine xcall_p (hotspotlaw18_frame_p 2 bx139) ?_; try dsimp only
        try refine xw_id ?_
        obtain ⟨x140, bx140, h0⟩ := bnd h0
        try simp only [go_sem, Nat.reduceEqDiff, reduceIte, Nat.reduceAdd, Nat.reduceMul, Nat.reduceSub, Nat.reduceLT, Nat.reduceLeDiff]
        refine xcall_p (hotspotlaw18_frame_p 2 bx140) ?_; try dsimp only
        try refine xw_id ?_
        obtain ⟨x141, bx141, h0⟩ := bnd h0
        try simp only [go_sem, Nat.reduceEqDiff, reduceIte, Nat.reduceAdd, Nat.reduceMul, Nat.reduceSub, Nat.reduceLT, Nat.reduceLeDiff]
        refine xcall_p (hotspotlaw18_frame_p 1 bx141) ?_; try dsimp only
        try refine xw_id ?_
        have gs1 : ∀ (v0 : HeldSeq) (s0_0 : AV) (v1 : HeldSeq) (s1_0 : AV), fillA (fun i => some (i * 42, 42)) ((e_HeldSeq HeldSeq.z vnil) ++ (e_HeldSeq HeldSeq.z vnil)) [(0, .agg (e_HeldSeq v0 s0_0)), (1, .agg (e_HeldSeq v1 s1_0))] = some ((e_HeldSeq v0 s0_0) ++ (e_HeldSeq v1 s1_0)) := by
         intro v0 s0_0 v1 s1_0
         have := fillA_go (sz := 42) (zs := (e_HeldSeq HeldSeq.z vnil)) rfl [e_HeldSeq v0 s0_0, e_HeldSeq v1 s1_0] 0 [] (by rfl) (by intro c hc; simp only [List.mem_cons, List.not_mem_nil, or_false] at hc; rcases hc with rfl | rfl <;> rfl)
         simpa only [rep, List.length_cons, List.length_nil, List.nil_append, List.append_nil, agP, List.flatten_cons, List.flatten_nil, Nat.zero_add, Nat.reduceAdd] using this
        obtain ⟨x142, bx142, h0⟩ := bnd h0
        try simp only [go_sem, Nat.reduceEqDiff, reduceIte, Nat.reduceAdd, Nat.reduceMul, Nat.reduceSub, Nat.reduceLT, Nat.reduceLeDiff, gs1]
        refine xcall_p (hotspotlaw18_frame_p 1 bx142) ?_; try dsimp only
        try refine xw_id ?_
        have gs2 : ∀ (v0 : Reorder) (s0_0 : AV) (v1 : Reorder) (s1_0 : AV) (v2 : Reorder) (s2_0 : AV) (v3 : Reorder) (s3_0 : AV) (v4 : Reorder) (s4_0 : AV) (v5 : Reorder) (s5_0 : AV) (v6 : Reorder) (s6_0 : AV) (v7 : Reorder) (s7_0 : AV), fillA (fun i => some (i * 6, 6)) ((e_Reorder Reorder.z vnil) ++ ((e_Reorder Reorder.z vnil) ++ ((e_Reorder Reorder.z vnil) ++ ((e_Reorder Reorder.z vnil) ++ ((e_Reorder Reorder.z vnil) ++ ((e_Reorder Reorder.z vnil) ++ ((e_Reorder Reorder.z vnil) ++ (e_Reorder Reorder.z vnil)))))))) [(0, .agg (e_Reorder v0 s0_0)), (1, .agg (e_Reorder v1 s1_0)), (2, .agg (e_Reorder v2 s2_0)), (3, .agg (e_Reorder v3 s3_0)), (4, .agg (e_Reorder v4 s4_0)), (5, .agg (e_Reorder v5 s5_0)), (6, .agg (e_Reorder v6 s6_0)), (7, .agg (e_Reorder v7 s7_0))] = some ((e_Reorder v0 s0_0) ++ ((e_Reorder v1 s1_0) ++ ((e_Reorder v2 s2_0) ++ ((e_Reorder v3 s3_0) ++ ((e_Reorder v4 s4_0) ++ ((e_Reorder v5 s5_0) ++ ((e_Reorder v6 s6_0) ++ (e_Reorder v7 s7_0)))))))) := by
         intro v0 s0_0 v1 s1_0 v2 s2_0 v3 s3_0 v4 s4_0 v5 s5_0 v6 s6_0 v7 s7_0
         have := fillA_go (sz := 6) (zs := (e_Reorder Reorder.z vnil)) rfl [e_Reorder v0 s0_0, e_Reorder v1 s1_0, e_Reorder v2 s2_0, e_Reorder v3 s3_0, e_Reorder v4 s4_0, e_Reorder v5 s5_0, e_Reorder v6 s6_0, e_Reorder v7 s7_0] 0 [] (by rfl) (by intro c hc; simp only [List.mem_cons, List.not_mem_nil, or_false] at hc; rcases hc with rfl | rfl | rfl | rfl | rfl | rfl | rfl | rfl <;> rfl)
         simpa only [rep, List.length_cons, List.length_nil, List.nil_append, List.append_nil, agP, List.flatten_cons, List.flatten_nil, Nat.zero_add, Nat.reduceAdd] using this
        try simp only [go_sem, Nat.reduceEqDiff, reduceIte, Nat.reduceAdd, Nat.reduceMul, Nat.reduceSub, Nat.reduceLT, Nat.reduceLeDiff, gs1, gs2]
        refine hKK _ (hotspotlaw18_ReorderNames_S14 x117 x125 x132 x133 x137 x111 x112 x113 x114 x115 x119 x121 x123 x127 x129 x131 x134 x135 x136 x138 x139 x140 x141 x142) (Wk.canonD [10, 14, 20, 24, 28] [] [some 0, some 1, some 2, some 3, some 4] rfl trivial rfl (tmOU 4 (tmOU 3 (tmOU 2 (tmOU 1 (tmOU 0 tmO0 rfl (by decide) (by simp only [upd_get, Nat.reduceEqDiff, reduceIte, Nat.reduceAdd, Nat.reduceMul, Nat.reduceSub, Nat.reduceLT, Nat.reduceLeDiff, if_true, if_false] <;> rfl) (e_Reorder_tmx (by rfl) (Tm.clean (Clean.imm (c_HeldSeq _))))) rfl (by decide) (by simp only [upd_get, Nat.reduceEqDiff, reduceIte, Nat.reduceAdd, Nat.reduceMul, Nat.reduceSub, Nat.reduceLT, Nat.reduceLeDiff, if_true, if_false] <;> rfl) (e_Reorder_tmx (by rfl) (Tm.clean (Clean.imm (c_HeldSeq _))))) rfl (by decide) (by simp only [upd_get, Nat.reduceEqDiff, reduceIte, Nat.reduceAdd, Nat.reduceMul, Nat.reduceSub, Nat.reduceLT, Nat.reduceLeDiff, if_true, if_false] <;> rfl) (e_Reorder_tmx (by rfl) (Tm.clean (Clean.imm (c_HeldSeq _))))) rfl (by decide) (by simp only [upd_get, Nat.reduceEqDiff, reduceIte, Nat.reduceAdd, Nat.reduceMul, Nat.reduceSub, Nat.reduceLT, Nat.reduceLeDiff, if_true, if_false] <;> rfl) (e_Reorder_tmx (by rfl) (Tm.clean (Clean.imm (c_HeldSeq _))))) rfl (by decide) (by simp only [upd_get, Nat.reduceEqDiff, reduceIte, Nat.reduceAdd, Nat.reduceMul, Nat.reduceSub, Nat.reduceLT, Nat.reduceLeDiff, if_true, if_false] <;> rfl) (TmL.clean (e_Window_clean _))) (tmAllU 51 (tmAllU 50 (tmAllU 49 (tmAllU 48 (tmAllU 45 (tmAllU 43 (tmAllU 42 (tmAllU 39 (tmAllU 38 (tmAllU 37 (tmAllU 36 (tmAllU 35 (tmAllU 34 (tmAllU 33 (tmAllU 30 (tmAllU 27 (tmAllU 24 (tmAllU 23 (tmAllU 22 (tmAllU 21 (tmAllU 18 (tmAllU 15 (tmAllU 12 (tmAllU 10 (tmAllU 9 (tmAllU 8 (tmAllU 6 (tmAllU 4 (tmAllU 2 tmAll0 (Tm.v _)) (Tm.v _)) (Tm.v _)) (Tm.v _)) (Tm.ptr rfl)) (Tm.v _)) (Tm.v _)) (Tm.v _)) (Tm.v _)) (Tm.v _)) (Tm.clean (Clean.imm (c_Frame _)))) (Tm.ptr rfl)) (Tm.v _)) (Tm.v _)) (Tm.v _)) (Tm.v _)) (Tm.clean (Clean.imm (c_Frame _)))) (Tm.ptr rfl)) (Tm.v _)) (Tm.clean (Clean.imm (c_Frame _)))) (Tm.ptr rfl)) (Tm.v _)) (Tm.v _)) (Tm.clean (Clean.imm (c_Frame _)))) (Tm.v _)) (Tm.v _)) (Tm.ptr rfl)) (Tm.v _)) (Tm.frzK (by rfl) (by simp) (by simp only [upd_get, Nat.reduceEqDiff, reduceIte, Nat.reduceAdd, Nat.reduceMul, Nat.reduceSub, Nat.reduceLT, Nat.reduceLeDiff, if_true, if_false] <;> rfl) (by rfl) (tmL_tgt (TmL.append (e_Reorder_tmx (y := { Reorder.z with Size := 1, Start := 4096 }) (s02 := (.imm (List.flatMap E_HeldSeq []) [].length)) (by rfl) (Tm.nil)) (TmL.append (e_Reorder_tmx (y := { Reorder.z with Size := 65 }) (s02 := (.imm (List.flatMap E_HeldSeq []) [].length)) (by rfl) (Tm.nil)) (TmL.append (e_Reorder_tmx (y := { Reorder.z with Hold := (-1), Size := 2 }) (s02 := (.imm (List.flatMap E_HeldSeq []) [].length)) (by rfl) (Tm.nil)) (TmL.append (e_Reorder_tmx (y := { Reorder.z with Held := [{ HeldSeq.z with Frame := { x138 with Body := x138.Body } }], Size := 2 }) (s02 := (.imm (List.flatMap E_HeldSeq [{ HeldSeq.z with Frame := { x138 with Body := x138.Body } }]) [{ HeldSeq.z with Frame := { x138 with Body := x138.Body } }].length)) (by rfl) (Tm.frz0 (by simp) (by simp only [upd_get, Nat.reduceEqDiff, reduceIte, Nat.reduceAdd, Nat.reduceMul, Nat.reduceSub, Nat.reduceLT, Nat.reduceLeDiff, if_true, if_false] <;> rfl) (by first | (simp only [r_HeldSeq_len, e_HeldSeq_len, List.length_append, List.length_cons, List.length_nil, List.length_modify, List.length_set, Nat.zero_add, Nat.mul_one]; done) | (simp only [r_HeldSeq_len, e_HeldSeq_len, List.length_append, List.length_cons, List.length_nil, List.length_modify, List.length_set, Nat.zero_add, Nat.mul_one]; omega)) (TmL.of_eq (by first | rfl | (simp only [List.flatMap_append, List.flatMap_cons, List.flatMap_nil, List.map_append, List.map_cons, List.map_nil, List.append_nil, List.nil_append]; done) | (simp only [List.flatMap_append, List.flatMap_cons, List.flatMap_nil, List.map_append, List.map_cons, List.map_nil, List.append_nil, List.nil_append]; rfl)) (c_HeldSeq _)))) (TmL.append (e_Reorder_tmx (y := { Reorder.z with Held := [{ HeldSeq.z with Frame := { x139 with Body := x139.Body } }], Size := 2 }) (s02 := (.imm (List.flatMap E_HeldSeq [{ HeldSeq.z with Frame := { x139 with Body := x139.Body } }]) [{ HeldSeq.z with Frame := { x139 with Body := x139.Body } }].length)) (by rfl) (Tm.frz0 (by simp) (by simp only [upd_get, Nat.reduceEqDiff, reduceIte, Nat.reduceAdd, Nat.reduceMul, Nat.reduceSub, Nat.reduceLT, Nat.reduceLeDiff, if_true, if_false] <;> rfl) (by first | (simp only [r_HeldSeq_len, e_HeldSeq_len, List.length_append, List.length_cons, List.length_nil, List.length_modify, List.length_set, Nat.zero_add, Nat.mul_one]; done) | (simp only [r_HeldSeq_len, e_HeldSeq_len, List.length_append, List.length_cons, List.length_nil, List.length_modify, List.length_set, Nat.zero_add, Nat.mul_one]; omega)) (TmL.of_eq (by first | rfl | (simp only [List.flatMap_append, List.flatMap_cons, List.flatMap_nil, List.map_append, List.map_cons, List.map_nil, List.append_nil, List.nil_append]; done) | (simp only [List.flatMap_append, List.flatMap_cons, List.flatMap_nil, List.map_append, List.map_cons, List.map_nil, List.append_nil, List.nil_append]; rfl)) (c_HeldSeq _)))) (TmL.append (e_Reorder_tmx (y := { Reorder.z with Held := [{ HeldSeq.z with Frame := { x140 with Body := x140.Body } }, { HeldSeq.z with Frame := { x141 with Body := x141.Body } }], Size := 4 }) (s02 := (.imm (List.flatMap E_HeldSeq [{ HeldSeq.z with Frame := { x140 with Body := x140.Body } }, { HeldSeq.z with Frame := { x141 with Body := x141.Body } }]) [{ HeldSeq.z with Frame := { x140 with Body := x140.Body } }, { HeldSeq.z with Frame := { x141 with Body := x141.Body } }].length)) (by rfl) (Tm.frzK (by rfl) (by simp) (by simp only [upd_get, Nat.reduceEqDiff, reduceIte, Nat.reduceAdd, Nat.reduceMul, Nat.reduceSub, Nat.reduceLT, Nat.reduceLeDiff, if_true, if_false] <;> rfl) (by rfl) (tmL_tgt (TmL.append (e_HeldSeq_tmx (y := { HeldSeq.z with Frame := { x140 with Body := x140.Body } }) (s02 := (.imm (List.map vu x140.Body) x140.Body.length)) (by rfl) (Tm.clean (Clean.imm (vu_clean _)))) (e_HeldSeq_tmx (y := { HeldSeq.z with Frame := { x141 with Body := x141.Body } }) (s02 := (.imm (List.map vu x141.Body) x141.Body.length)) (by rfl) (Tm.clean (Clean.imm (vu_clean _))))) (by rfl)))) (TmL.append (e_Reorder_tmx (y := { Reorder.z with Held := [{ HeldSeq.z with At := (-1), Frame := { x142 with Body := x142.Body } }], Size := 2 }) (s02 := (.imm (List.flatMap E_HeldSeq [{ HeldSeq.z with At := (-1), Frame := { x142 with Body := x142.Body } }]) [{ HeldSeq.z with At := (-1), Frame := { x142 with Body := x142.Body } }].length)) (by rfl) (Tm.frz0 (by simp) (by simp only [upd_get, Nat.reduceEqDiff, reduceIte, Nat.reduceAdd, Nat.reduceMul, Nat.reduceSub, Nat.reduceLT, Nat.reduceLeDiff, if_true, if_false] <;> rfl) (by first | (simp only [r_HeldSeq_len, e_HeldSeq_len, List.length_append, List.length_cons, List.length_nil, List.length_modify, List.length_set, Nat.zero_add, Nat.mul_one]; done) | (simp only [r_HeldSeq_len, e_HeldSeq_len, List.length_append, List.length_cons, List.length_nil, List.length_modify, List.length_set, Nat.zero_add, Nat.mul_one]; omega)) (TmL.of_eq (by first | rfl | (simp only [List.flatMap_append, List.flatMap_cons, List.flatMap_nil, List.map_append, List.map_cons, List.map_nil, List.append_nil, List.nil_append]; done) | (simp only [List.flatMap_append, List.flatMap_cons, List.flatMap_nil, List.map_append, List.map_cons, List.map_nil, List.append_nil, List.nil_append]; rfl)) (c_HeldSeq _)))) (e_Reorder_tmx (y := { Reorder.z with Seen := { Window.z with Start := (-1) }, Size := 2 }) (s02 := (.imm (List.flatMap E_HeldSeq []) [].length)) (by rfl) (Tm.nil))))))))) (by rfl))))) ?_; clear hKK KK
        unfold hotspotlaw18_ReorderNames_S14
        refine awp_assoc ?_
        refine awp_nr [2,4,6,8,9,10,12,15,18,21,22,23,24,27,30,33,34,35,36,37,38,39,42,43,45,48,49,50,51] (fun _ => rfl) fun tz => ?_
        refine awp_regW fun KK hKK => ?_
        refine xw_id ?_
        try simp only [go_sem, Nat.reduceEqDiff, reduceIte, Nat.reduceAdd, Nat.reduceMul, Nat.reduceSub, Nat.reduceLT, Nat.reduceLeDiff]
        refine hKK _ _ (Wk.refl _ _ _) ?_; clear hKK KK
        obtain ⟨o144, hi3, h0⟩ := bnd h0
        refine awp_cut (fun d143 : Unit => o144 = Ex.go d143) (fun d143 : Unit => hotspotlaw18_ReorderNames_S15 x117 x125 x132 x133 x137 x111 x112 x113 x114 x115 x119 x121 x123 x127 x129 x131 x134 x135 x136 d143) ?_ ?_
        ·
         refine awp_block1 ?_
         refine awp_loopS (fun n (d145 : Int) => hotspotlaw18_ReorderNames_L17 x138 x139 x140 x141 x142 n d145 = some o144) (fun d145 : Int => hotspotlaw18_ReorderNames_S16 x117 x125 x132 x133 x137 x111 x112 x113 x114 x115 x119 x121 x123 x127 x129 x131 x134 x135 x136 x138 x139 x140 x141 x142 d145) big 0 (Wk.canonD [] [] [some 0, some 1, some 2, some 3, some 4] rfl trivial rfl (tmOU 4 (tmOU 3 (tmOU 2 (tmOU 1 (tmOU 0 tmO0 rfl List.not_mem_nil (by simp only [upd_get, Nat.reduceEqDiff, reduceIte, Nat.reduceAdd, Nat.reduceMul, Nat.reduceSub, Nat.reduceLT, Nat.reduceLeDiff, if_true, if_false] <;> rfl) (e_Reorder_tmx (by rfl) (Tm.clean (Clean.imm (c_HeldSeq _))))) rfl List.not_mem_nil (by simp only [upd_get, Nat.reduceEqDiff, reduceIte, Nat.reduceAdd, Nat.reduceMul, Nat.reduceSub, Nat.reduceLT, Nat.reduceLeDiff, if_true, if_false] <;> rfl) (e_Reorder_tmx (by rfl) (Tm.clean (Clean.imm (c_HeldSeq _))))) rfl List.not_mem_nil (by simp only [upd_get, Nat.reduceEqDiff, reduceIte, Nat.reduceAdd, Nat.reduceMul, Nat.reduceSub, Nat.reduceLT, Nat.reduceLeDiff, if_true, if_false] <;> rfl) (e_Reorder_tmx (by rfl) (Tm.clean (Clean.imm (c_HeldSeq _))))) rfl List.not_mem_nil (by simp only [upd_get, Nat.reduceEqDiff, reduceIte, Nat.reduceAdd, Nat.reduceMul, Nat.reduceSub, Nat.reduceLT, Nat.reduceLeDiff, if_true, if_false] <;> rfl) (e_Reorder_tmx (by rfl) (Tm.clean (Clean.imm (c_HeldSeq _))))) rfl List.not_mem_nil (by simp only [upd_get, Nat.reduceEqDiff, reduceIte, Nat.reduceAdd, Nat.reduceMul, Nat.reduceSub, Nat.reduceLT, Nat.reduceLeDiff, if_true, if_false] <;> rfl) (TmL.clean (e_Window_clean _))) (tmAllU 52 (tmAllU 51 (tmAllU 50 (tmAllU 49 (tmAllU 48 (tmAllU 45 (tmAllU 43 (tmAllU 42 (tmAllU 39 (tmAllU 38 (tmAllU 37 (tmAllU 36 (tmAllU 35 (tmAllU 34 (tmAllU 33 (tmAllU 30 (tmAllU 27 (tmAllU 24 (tmAllU 23 (tmAllU 22 (tmAllU 21 (tmAllU 18 (tmAllU 15 (tmAllU 12 (tmAllU 10 (tmAllU 9 (tmAllU 8 (tmAllU 6 (tmAllU 4 (tmAllU 2 tmAll0 (Tm.v _)) (Tm.v _)) (Tm.v _)) (Tm.v _)) (Tm.ptr rfl)) (Tm.v _)) (Tm.v _)) (Tm.v _)) (Tm.v _)) (Tm.v _)) (Tm.clean (Clean.imm (c_Frame _)))) (Tm.ptr rfl)) (Tm.v _)) (Tm.v _)) (Tm.v _)) (Tm.v _)) (Tm.clean (Clean.imm (c_Frame _)))) (Tm.ptr rfl)) (Tm.v _)) (Tm.clean (Clean.imm (c_Frame _)))) (Tm.ptr rfl)) (Tm.v _)) (Tm.v _)) (Tm.clean (Clean.imm (c_Frame _)))) (Tm.v _)) (Tm.v _)) (Tm.ptr rfl)) (Tm.v _)) (Tm.clean (Clean.imm (c_Reorder _)))) (Tm.v _))) hi3 ?_
         clear hi3
         rintro n d145 hl5
         rcases n with _ | n4
         ·
          (rw [hotspotlaw18_ReorderNames_L17] at hl5; cases hl5)
         ·
          rw [hotspotlaw18_ReorderNames_L17] at hl5
          unfold hotspotlaw18_ReorderNames_S16
          refine awp_assoc ?_
          refine awp_nr [2,4,6,8,9,10,12,15,18,21,22,23,24,27,30,33,34,35,36,37,38,39,42,43,45,48,49,50,51,52] (fun _ => rfl) fun tz => ?_
          refine awp_regW fun KK hKK => ?_
          refine xw_id ?_
          try simp only [go_sem, Nat.reduceEqDiff, reduceIte, Nat.reduceAdd, Nat.reduceMul, Nat.reduceSub, Nat.reduceLT, Nat.reduceLeDiff, Int.reduceToNat, Int.reduceBEq, Int.reduceBNe, Int.reduceLT, Int.reduceLE, Int.reduceAdd, Int.reduceSub, Int.reduceMul, Int.reduceNeg, Int.reduceEq, Int.reduceNe]
          refine hKK _ _ (Wk.refl _ _ _) ?_; clear hKK KK
          refine awp_cond (b := (decide (d145 < ((hotspotlaw18_ReorderNames_C13 x138 x139 x140 x141 x142).length : Int)))) rfl (fun h6 => ?_) (fun h6 => ?_)
          ·
           have hl5 := cT hl5 h6
           refine awp_skip ?_
           refine awp_blockW ?_
           refine awp_nr [2,4,6,8,9,10,12,15,18,21,22,23,24,27,30,33,34,35,36,37,38,39,42,43,45,48,49,50,51,52] (fun _ => rfl) fun tz => ?_
           refine awp_regW fun KK hKK => ?_
           refine xw_id ?_
           obtain ⟨x146, bx146, hl5⟩ := bnd hl5
           obtain ⟨fx146_0, fx146_1, fx146_2, fx146_3⟩ := idx_some bx146
           obtain ⟨x147, bx147, hl5⟩ := bnd hl5
           try simp only [go_sem, Nat.reduceEqDiff, reduceIte, Nat.reduceAdd, Nat.reduceMul, Nat.reduceSub, Nat.reduceLT, Nat.reduceLeDiff, fx146_0, fx146_1, fx146_2]
           refine xcall_p (reorder_Check_p x146 bx147) ?_; try dsimp only
           try refine xw_id ?_
           try simp only [go_sem, Nat.reduceEqDiff, reduceIte, Nat.reduceAdd, Nat.reduceMul, Nat.reduceSub, Nat.reduceLT, Nat.reduceLeDiff, fx146_0, fx146_1, fx146_2]
           refine hKK _ _ (Wk.refl _ _ _) ?_; clear hKK KK
           refine awp_cond1 (b := (x147 != 8)) rfl (fun h7 => ?_) (fun h7 => ?_)
           ·
            have hl5 := cT hl5 h7
            refine awp_nr [] (fun _ => rfl) fun tz => ?_
            refine awp_regW fun KK hKK => ?_
            refine xw_id ?_
            try simp only [go_sem, Nat.reduceEqDiff, reduceIte, Nat.reduceAdd, Nat.reduceMul, Nat.reduceSub, Nat.reduceLT, Nat.reduceLeDiff, fx146_0, fx146_1, fx146_2]
            refine hKK _ _ (Wk.refl _ _ _) ?_; clear hKK KK
            refine awp_ret1 ?_
            refine bq_r ?_
            refine sq_r ?_
            refine lq_r ?_
            refine bq_r ?_
            refine sq_r ?_
            obtain rfl := someInj hl5
            obtain rfl := Ex.k_ret h0
            refine endW_i ?_
            refine end_ret0 rs10 (rfl) ?_
            try simp only [go_sem, Nat.reduceEqDiff, reduceIte, Nat.reduceAdd, Nat.reduceMul, Nat.reduceSub, Nat.reduceLT, Nat.reduceLeDiff, fz, nilS, packR, List.take_nil, List.take_length, List.length_map, List.length_append, cond_true, cond_false, Nat.ble_eq, ble_self]
            all_goals first | rfl | (simp only [go_sem, Nat.reduceEqDiff, reduceIte, Nat.reduceAdd, Nat.reduceMul, Nat.reduceSub, Nat.reduceLT, Nat.reduceLeDiff, fz, nilS, packR, List.take_nil, List.take_length, List.length_map, List.length_append, cond_true, cond_false, Nat.ble_eq, ble_self, List.map_append] <;> rfl)
           ·
            have hl5 := cF hl5 h7
            refine awp_skip1 ?_
            refine bq_n ?_
            refine seqW_i ?_
            refine awp_nr1 [2,4,6,8,9,10,12,15,18,21,22,23,24,27,30,33,34,35,36,37,38,39,42,43,45,48,49,50,51,52] (fun _ => rfl) fun tz => ?_
            refine awp_reg1 fun KK hKK => ?_
            refine xw_id ?_
            try simp only [go_sem, Nat.reduceEqDiff, reduceIte, Nat.reduceAdd, Nat.reduceMul, Nat.reduceSub, Nat.reduceLT, Nat.reduceLeDiff, fx146_0, fx146_1, fx146_2]
            refine hKK _ ?_; clear hKK KK
            refine lq_n ?_
            exact ⟨n4, IntKind.wrap .i64 (d145 + 1), rfl, hl5, (Wk.canonD [] [] [some 0, some 1, some 2, some 3, some 4] rfl trivial rfl (tmOU 4 (tmOU 3 (tmOU 2 (tmOU 1 (tmOU 0 tmO0 rfl List.not_mem_nil (by simp only [upd_get, Nat.reduceEqDiff, reduceIte, Nat.reduceAdd, Nat.reduceMul, Nat.reduceSub, Nat.reduceLT, Nat.reduceLeDiff, if_true, if_false] <;> rfl) (e_Reorder_tmx (by rfl) (Tm.clean (Clean.imm (c_HeldSeq _))))) rfl List.not_mem_nil (by simp only [upd_get, Nat.reduceEqDiff, reduceIte, Nat.reduceAdd, Nat.reduceMul, Nat.reduceSub, Nat.reduceLT, Nat.reduceLeDiff, if_true, if_false] <;> rfl) (e_Reorder_tmx (by rfl) (Tm.clean (Clean.imm (c_HeldSeq _))))) rfl List.not_mem_nil (by simp only [upd_get, Nat.reduceEqDiff, reduceIte, Nat.reduceAdd, Nat.reduceMul, Nat.reduceSub, Nat.reduceLT, Nat.reduceLeDiff, if_true, if_false] <;> rfl) (e_Reorder_tmx (by rfl) (Tm.clean (Clean.imm (c_HeldSeq _))))) rfl List.not_mem_nil (by simp only [upd_get, Nat.reduceEqDiff, reduceIte, Nat.reduceAdd, Nat.reduceMul, Nat.reduceSub, Nat.reduceLT, Nat.reduceLeDiff, if_true, if_false] <;> rfl) (e_Reorder_tmx (by rfl) (Tm.clean (Clean.imm (c_HeldSeq _))))) rfl List.not_mem_nil (by simp only [upd_get, Nat.reduceEqDiff, reduceIte, Nat.reduceAdd, Nat.reduceMul, Nat.reduceSub, Nat.reduceLT, Nat.reduceLeDiff, if_true, if_false] <;> rfl) (TmL.clean (e_Window_clean _))) (tmAllU 52 (tmAllU 51 (tmAllU 50 (tmAllU 49 (tmAllU 48 (tmAllU 45 (tmAllU 43 (tmAllU 42 (tmAllU 39 (tmAllU 38 (tmAllU 37 (tmAllU 36 (tmAllU 35 (tmAllU 34 (tmAllU 33 (tmAllU 30 (tmAllU 27 (tmAllU 24 (tmAllU 23 (tmAllU 22 (tmAllU 21 (tmAllU 18 (tmAllU 15 (tmAllU 12 (tmAllU 10 (tmAllU 9 (tmAllU 8 (tmAllU 6 (tmAllU 4 (tmAllU 2 tmAll0 (Tm.v _)) (Tm.v _)) (Tm.v _)) (Tm.v _)) (Tm.ptr rfl)) (Tm.v _)) (Tm.v _)) (Tm.v _)) (Tm.v _)) (Tm.v _)) (Tm.clean (Clean.imm (c_Frame _)))) (Tm.ptr rfl)) (Tm.v _)) (Tm.v _)) (Tm.v _)) (Tm.v _)) (Tm.clean (Clean.imm (c_Frame _)))) (Tm.ptr rfl)) (Tm.v _)) (Tm.clean (Clean.imm (c_Frame _)))) (Tm.ptr rfl)) (Tm.v _)) (Tm.v _)) (Tm.clean (Clean.imm (c_Frame _)))) (Tm.v _)) (Tm.v _)) (Tm.ptr rfl)) (Tm.v _)) (Tm.clean (Clean.imm (c_Reorder _)))) (Tm.v _)))⟩
          ·
           have hl5 := cF hl5 h6
           refine awp_exit ?_
           refine lq_e ?_
           refine bq_e ?_
           refine sq_n ?_
           obtain rfl := someInj hl5
           exact ⟨_, rfl, (Wk.canonD [] [] [some 0, some 1, some 2, some 3, some 4] rfl trivial rfl (tmOU 4 (tmOU 3 (tmOU 2 (tmOU 1 (tmOU 0 tmO0 rfl List.not_mem_nil (by simp only [upd_get, Nat.reduceEqDiff, reduceIte, Nat.reduceAdd, Nat.reduceMul, Nat.reduceSub, Nat.reduceLT, Nat.reduceLeDiff, if_true, if_false] <;> rfl) (e_Reorder_tmx (by rfl) (Tm.clean (Clean.imm (c_HeldSeq _))))) rfl List.not_mem_nil (by simp only [upd_get, Nat.reduceEqDiff, reduceIte, Nat.reduceAdd, Nat.reduceMul, Nat.reduceSub, Nat.reduceLT, Nat.reduceLeDiff, if_true, if_false] <;> rfl) (e_Reorder_tmx (by rfl) (Tm.clean (Clean.imm (c_HeldSeq _))))) rfl List.not_mem_nil (by simp only [upd_get, Nat.reduceEqDiff, reduceIte, Nat.reduceAdd, Nat.reduceMul, Nat.reduceSub, Nat.reduceLT, Nat.reduceLeDiff, if_true, if_false] <;> rfl) (e_Reorder_tmx (by rfl) (Tm.clean (Clean.imm (c_HeldSeq _))))) rfl List.not_mem_nil (by simp only [upd_get, Nat.reduceEqDiff, reduceIte, Nat.reduceAdd, Nat.reduceMul, Nat.reduceSub, Nat.reduceLT, Nat.reduceLeDiff, if_true, if_false] <;> rfl) (e_Reorder_tmx (by rfl) (Tm.clean (Clean.imm (c_HeldSeq _))))) rfl List.not_mem_nil (by simp only [upd_get, Nat.reduceEqDiff, reduceIte, Nat.reduceAdd, Nat.reduceMul, Nat.reduceSub, Nat.reduceLT, Nat.reduceLeDiff, if_true, if_false] <;> rfl) (TmL.clean (e_Window_clean _))) (tmAllU 50 (tmAllU 49 (tmAllU 48 (tmAllU 45 (tmAllU 43 (tmAllU 42 (tmAllU 39 (tmAllU 38 (tmAllU 37 (tmAllU 36 (tmAllU 35 (tmAllU 34 (tmAllU 33 (tmAllU 30 (tmAllU 27 (tmAllU 24 (tmAllU 23 (tmAllU 22 (tmAllU 21 (tmAllU 18 (tmAllU 15 (tmAllU 12 (tmAllU 10 (tmAllU 9 (tmAllU 8 (tmAllU 6 (tmAllU 4 (tmAllU 2 tmAll0 (Tm.v _)) (Tm.v _)) (Tm.v _)) (Tm.v _)) (Tm.ptr rfl)) (Tm.v _)) (Tm.v _)) (Tm.v _)) (Tm.v _)) (Tm.v _)) (Tm.clean (Clean.imm (c_Frame _)))) (Tm.ptr rfl)) (Tm.v _)) (Tm.v _)) (Tm.v _)) (Tm.v _)) (Tm.clean (Clean.imm (c_Frame _)))) (Tm.ptr rfl)) (Tm.v _)) (Tm.clean (Clean.imm (c_Frame _)))) (Tm.ptr rfl)) (Tm.v _)) (Tm.v _)) (Tm.clean (Clean.imm (c_Frame _)))) (Tm.v _)) (Tm.v _)) (Tm.ptr rfl)) (Tm.v _)))⟩
        ·
         rintro d143 rfl
         have h0 := Ex.k_go h0
         clear hi3
         unfold hotspotlaw18_ReorderNames_S15
         refine awp_nr [2,4,6,8,9,10,12,15,18,21,22,23,24,27,30,33,34,35,36,37,38,39,42,43,45,48,49,50] (fun _ => rfl) fun tz => ?_
         refine awp_regW fun KK hKK => ?_
         refine xw_id ?_
         refine xw_stop 3 (by (try simp only [go_sem]); rfl) (by (try simp only [go_sem]); rfl) (by rfl) fun K1 hK1 => ?_
         refine xw_id ?_
         try simp only [go_sem, Nat.reduceEqDiff, reduceIte, Nat.reduceAdd, Nat.reduceMul, Nat.reduceSub, Nat.reduceLT, Nat.reduceLeDiff]
         refine hK1 _ ?_; clear hK1 K1
         refine xw_cut 3 [(6, (vi x113.2)), (8, (vi x114.2)), (9, (.ptr 0 0)), (10, (vi x115.2)), (12, (vi x117.2.2)), (15, (vi x119.2.2)), (18, (vi x121.2.2)), (21, (vi x123.2.2)), (22, (.imm (List.flatMap E_Frame x125.1) x125.1.length)), (23, (.ptr 1 0)), (24, (vi x125.2.2)), (27, (vi x127.2.2)), (30, (vi x129.2.2)), (33, (vi x131.2.2)), (34, (.imm (List.flatMap E_Frame x132.1) x132.1.length)), (35, (.ptr 2 0)), (36, (vi x132.2.2)), (37, (.imm (List.flatMap E_Frame x133.1) x133.1.length)), (38, (.ptr 3 0)), (39, (vi x133.2.2)), (42, (vi x134.2.2)), (43, (.imm (List.flatMap E_Frame x135.1) x135.1.length)), (45, (vi x135.2.2)), (48, (vi x136.2.2)), (49, (.ptr 4 0)), (50, (vi x137.2)), (208, (vb ((x111.2 == 2) && (x112.2 == 2))))] (by (try simp only [go_sem]); rfl) (by (try simp only [go_sem]); rfl) (by rfl) (fun K1 hK1 => ?_) fun tz => ?_
         ·
          refine xw_id ?_
          rcases Bool.eq_false_or_eq_true (x111.2 == 2) with h8 | h8
          ·
           try simp only [go_sem, Nat.reduceEqDiff, reduceIte, Nat.reduceAdd, Nat.reduceMul, Nat.reduceSub, Nat.reduceLT, Nat.reduceLeDiff, h8]
           exact hK1 _ ⟨rfl, rfl, rfl, rfl, rfl, rfl, rfl, rfl, rfl, rfl, rfl, rfl, rfl, rfl, rfl, rfl, rfl, rfl, rfl, rfl, rfl, rfl, rfl, rfl, rfl, rfl, rfl, (by first | rfl | (rw [h8]; rfl) | (simp only [h8, Bool.true_and, Bool.false_and, Bool.true_or, Bool.false_or, cond_true, cond_false]; done)), trivial⟩
          ·
           try simp only [go_sem, Nat.reduceEqDiff, reduceIte, Nat.reduceAdd, Nat.reduceMul, Nat.reduceSub, Nat.reduceLT, Nat.reduceLeDiff, h8]
           exact hK1 _ ⟨rfl, rfl, rfl, rfl, rfl, rfl, rfl, rfl, rfl, rfl, rfl, rfl, rfl, rfl, rfl, rfl, rfl, rfl, rfl, rfl, rfl, rfl, rfl, rfl, rfl, rfl, rfl, (by first | rfl | (rw [h8]; rfl) | (simp only [h8, Bool.true_and, Bool.false_and, Bool.true_or, Bool.false_or, cond_true, cond_false]; done)), trivial⟩
         ·
          refine xw_id ?_
          refine xw_stop 1 (by (try simp only [go_sem]); rfl) (by (try simp only [go_sem]); rfl) (by rfl) fun K1 hK1 => ?_
          refine xw_id ?_
          try simp only [go_sem, Nat.reduceEqDiff, reduceIte, Nat.reduceAdd, Nat.reduceMul, Nat.reduceSub, Nat.reduceLT, Nat.reduceLeDiff]
          refine hK1 _ ?_; clear hK1 K1
          refine xw_cut 3 [(8, (vi x114.2)), (9, (.ptr 0 0)), (10, (vi x115.2)), (12, (vi x117.2.2)), (15, (vi x119.2.2)), (18, (vi x121.2.2)), (21, (vi x123.2.2)), (22, (.imm (List.flatMap E_Frame x125.1) x125.1.length)), (23, (.ptr 1 0)), (24, (vi x125.2.2)), (27, (vi x127.2.2)), (30, (vi x129.2.2)), (33, (vi x131.2.2)), (34, (.imm (List.flatMap E_Frame x132.1) x132.1.length)), (35, (.ptr 2 0)), (36, (vi x132.2.2)), (37, (.imm (List.flatMap E_Frame x133.1) x133.1.length)), (38, (.ptr 3 0)), (39, (vi x133.2.2)), (42, (vi x134.2.2)), (43, (.imm (List.flatMap E_Frame x135.1) x135.1.length)), (45, (vi x135.2.2)), (48, (vi x136.2.2)), (49, (.ptr 4 0)), (50, (vi x137.2)), (212, (vb (((x111.2 == 2) && (x112.2 == 2)) && (x113.2 == 2))))] (by (try simp only [go_sem]); rfl) (by (try simp only [go_sem]); rfl) (by rfl) (fun K1 hK1 => ?_) fun tz => ?_
          ·
           refine xw_id ?_
           rcases Bool.eq_false_or_eq_true ((x111.2 == 2) && (x112.2 == 2)) with h9 | h9
           ·
            have h9_0 : (x111.2 == 2) = true := by simp only [Bool.and_eq_true] at h9; exact h9.1
            have h9_1 : (x112.2 == 2) = true := by simp only [Bool.and_eq_true] at h9; exact h9.2
            try simp only [go_sem, Nat.reduceEqDiff, reduceIte, Nat.reduceAdd, Nat.reduceMul, Nat.reduceSub, Nat.reduceLT, Nat.reduceLeDiff, h9, h9_0, h9_1]
            exact hK1 _ ⟨rfl, (by first | rfl | (rw [h9_0]; rfl) | (rw [h9_1]; rfl)), (by first | rfl | (rw [h9_0]; rfl) | (rw [h9_1]; rfl)), (by first | rfl | (rw [h9_0]; rfl) | (rw [h9_1]; rfl)), (by first | rfl | (rw [h9_0]; rfl) | (rw [h9_1]; rfl)), (by first | rfl | (rw [h9_0]; rfl) | (rw [h9_1]; rfl)), (by first | rfl | (rw [h9_0]; rfl) | (rw [h9_1]; rfl)), (by first | rfl | (rw [h9_0]; rfl) | (rw [h9_1]; rfl)), (by first | rfl | (rw [h9_0]; rfl) | (rw [h9_1]; rfl)), (by first | rfl | (rw [h9_0]; rfl) | (rw [h9_1]; rfl)), (by first | rfl | (rw [h9_0]; rfl) | (rw [h9_1]; rfl)), (by first | rfl | (rw [h9_0]; rfl) | (rw [h9_1]; rfl)), (by first | rfl | (rw [h9_0]; rfl) | (rw [h9_1]; rfl)), (by first | rfl | (rw [h9_0]; rfl) | (rw [h9_1]; rfl)), (by first | rfl | (rw [h9_0]; rfl) | (rw [h9_1]; rfl)), (by first | rfl | (rw [h9_0]; rfl) | (rw [h9_1]; rfl)), (by first | rfl | (rw [h9_0]; rfl) | (rw [h9_1]; rfl)), (by first | rfl | (rw [h9_0]; rfl) | (rw [h9_1]; rfl)), (by first | rfl | (rw [h9_0]; rfl) | (rw [h9_1]; rfl)), (by first | rfl | (rw [h9_0]; rfl) | (rw [h9_1]; rfl)), (by first | rfl | (rw [h9_0]; rfl) | (rw [h9_1]; rfl)), (by first | rfl | (rw [h9_0]; rfl) | (rw [h9_1]; rfl)), (by first | rfl | (rw [h9_0]; rfl) | (rw [h9_1]; rfl)), (by first | rfl | (rw [h9_0]; rfl) | (rw [h9_1]; rfl)), (by first | rfl | (rw [h9_0]; rfl) | (rw [h9_1]; rfl)), (by first | rfl | (rw [h9_0]; rfl) | (rw [h9_1]; rfl)), (by first | rfl | (rw [h9]; rfl) | (simp only [h9, Bool.true_and, Bool.false_and, Bool.true_or, Bool.false_or, cond_true, cond_false]; done)), trivial⟩
           ·
            try simp only [go_sem, Nat.reduceEqDiff, reduceIte, Nat.reduceAdd, Nat.reduceMul, Nat.reduceSub, Nat.reduceLT, Nat.reduceLeDiff, h9]
            exact hK1 _ ⟨rfl, rfl, rfl, rfl, rfl, rfl, rfl, rfl, rfl, rfl, rfl, rfl, rfl, rfl, rfl, rfl, rfl, rfl, rfl, rfl, rfl, rfl, rfl, rfl, rfl, rfl, (by first | rfl | (rw [h9]; rfl) | (simp only [h9, Bool.true_and, Bool.false_and, Bool.true_or, Bool.false_or, cond_true, cond_false]; done)), trivial⟩
          ·
           refine xw_id ?_
           refine xw_stop 1 (by (try simp only [go_sem]); rfl) (by (try simp only [go_sem]); rfl) (by rfl) fun K1 hK1 => ?_
           refine xw_id ?_
           try simp only [go_sem, Nat.reduceEqDiff, reduceIte, Nat.reduceAdd, Nat.reduceMul, Nat.reduceSub, Nat.reduceLT, Nat.reduceLeDiff]
           refine hK1 _ ?_; clear hK1 K1
           refine xw_cut 3 [(9, (.ptr 0 0)), (10, (vi x115.2)), (12, (vi x117.2.2)), (15, (vi x119.2.2)), (18, (vi x121.2.2)), (21, (vi x123.2.2)), (22, (.imm (List.flatMap E_Frame x125.1) x125.1.length)), (23, (.ptr 1 0)), (24, (vi x125.2.2)), (27, (vi x127.2.2)), (30, (vi x129.2.2)), (33, (vi x131.2.2)), (34, (.imm (List.flatMap E_Frame x132.1) x132.1.length)), (35, (.ptr 2 0)), (36, (vi x132.2.2)), (37, (.imm (List.flatMap E_Frame x133.1) x133.1.length)), (38, (.ptr 3 0)), (39, (vi x133.2.2)), (42, (vi x134.2.2)), (43, (.imm (List.flatMap E_Frame x135.1) x135.1.length)), (45, (vi x135.2.2)), (48, (vi x136.2.2)), (49, (.ptr 4 0)), (50, (vi x137.2)), (216, (vb ((((x111.2 == 2) && (x112.2 == 2)) && (x113.2 == 2)) && (x114.2 == 2))))] (by (try simp only [go_sem]); rfl) (by (try simp only [go_sem]); rfl) (by rfl) (fun K1 hK1 => ?_) fun tz => ?_
           ·
            refine xw_id ?_
            rcases Bool.eq_false_or_eq_true (((x111.2 == 2) && (x112.2 == 2)) && (x113.2 == 2)) with h10 | h10
            ·
             have h10_0 : (x111.2 == 2) = true := by simp only [Bool.and_eq_true] at h10; exact h10.1.1
             have h10_1 : (x112.2 == 2) = true := by simp only [Bool.and_eq_true] at h10; exact h10.1.2
             have h10_2 : (x113.2 == 2) = true := by simp only [Bool.and_eq_true] at h10; exact h10.2
             try simp only [go_sem, Nat.reduceEqDiff, reduceIte, Nat.reduceAdd, Nat.reduceMul, Nat.reduceSub, Nat.reduceLT, Nat.reduceLeDiff, h10, h10_0, h10_1, h10_2]
             exact hK1 _ ⟨rfl, (by first | rfl | (rw [h10_0]; rfl) | (rw [h10_1]; rfl) | (rw [h10_2]; rfl)), (by first | rfl | (rw [h10_0]; rfl) | (rw [h10_1]; rfl) | (rw [h10_2]; rfl)), (by first | rfl | (rw [h10_0]; rfl) | (rw [h10_1]; rfl) | (rw [h10_2]; rfl)), (by first | rfl | (rw [h10_0]; rfl) | (rw [h10_1]; rfl) | (rw [h10_2]; rfl)), (by first | rfl | (rw [h10_0]; rfl) | (rw [h10_1]; rfl) | (rw [h10_2]; rfl)), (by first | rfl | (rw [h10_0]; rfl) | (rw [h10_1]; rfl) | (rw [h10_2]; rfl)), (by first | rfl | (rw [h10_0]; rfl) | (rw [h10_1]; rfl) | (rw [h10_2]; rfl)), (by first | rfl | (rw [h10_0]; rfl) | (rw [h10_1]; rfl) | (rw [h10_2]; rfl)), (by first | rfl | (rw [h10_0]; rfl) | (rw [h10_1]; rfl) | (rw [h10_2]; rfl)), (by first | rfl | (rw [h10_0]; rfl) | (rw [h10_1]; rfl) | (rw [h10_2]; rfl)), (by first | rfl | (rw [h10_0]; rfl) | (rw [h10_1]; rfl) | (rw [h10_2]; rfl)), (by first | rfl | (rw [h10_0]; rfl) | (rw [h10_1]; rfl) | (rw [h10_2]; rfl)), (by first | rfl | (rw [h10_0]; rfl) | (rw [h10_1]; rfl) | (rw [h10_2]; rfl)), (by first | rfl | (rw [h10_0]; rfl) | (rw [h10_1]; rfl) | (rw [h10_2]; rfl)), (by first | rfl | (rw [h10_0]; rfl) | (rw [h10_1]; rfl) | (rw [h10_2]; rfl)), (by first | rfl | (rw [h10_0]; rfl) | (rw [h10_1]; rfl) | (rw [h10_2]; rfl)), (by first | rfl | (rw [h10_0]; rfl) | (rw [h10_1]; rfl) | (rw [h10_2]; rfl)), (by first | rfl | (rw [h10_0]; rfl) | (rw [h10_1]; rfl) | (rw [h10_2]; rfl)), (by first | rfl | (rw [h10_0]; rfl) | (rw [h10_1]; rfl) | (rw [h10_2]; rfl)), (by first | rfl | (rw [h10_0]; rfl) | (rw [h10_1]; rfl) | (rw [h10_2]; rfl)), (by first | rfl | (rw [h10_0]; rfl) | (rw [h10_1]; rfl) | (rw [h10_2]; rfl)), (by first | rfl | (rw [h10_0]; rfl) | (rw [h10_1]; rfl) | (rw [h10_2]; rfl)), (by first | rfl | (rw [h10_0]; rfl) | (rw [h10_1]; rfl) | (rw [h10_2]; rfl)), (by first | rfl | (rw [h10_0]; rfl) | (rw [h10_1]; rfl) | (rw [h10_2]; rfl)), (by first | rfl | (rw [h10]; rfl) | (simp only [h10, Bool.true_and, Bool.false_and, Bool.true_or, Bool.false_or, cond_true, cond_false]; done)), trivial⟩
            ·
             try simp only [go_sem, Nat.reduceEqDiff, reduceIte, Nat.reduceAdd, Nat.reduceMul, Nat.reduceSub, Nat.reduceLT, Nat.reduceLeDiff, h10]
             exact hK1 _ ⟨rfl, rfl, rfl, rfl, rfl, rfl, rfl, rfl, rfl, rfl, rfl, rfl, rfl, rfl, rfl, rfl, rfl, rfl, rfl, rfl, rfl, rfl, rfl, rfl, rfl, (by first | rfl | (rw [h10]; rfl) | (simp only [h10, Bool.true_and, Bool.false_and, Bool.true_or, Bool.false_or, cond_true, cond_false]; done)), trivial⟩
           ·
            refine xw_id ?_
            refine xw_stop 1 (by (try simp only [go_sem]); rfl) (by (try simp only [go_sem]); rfl) (by rfl) fun K1 hK1 => ?_
            refine xw_id ?_
            try simp only [go_sem, Nat.reduceEqDiff, reduceIte, Nat.reduceAdd, Nat.reduceMul, Nat.reduceSub, Nat.reduceLT, Nat.reduceLeDiff]
            refine hK1 _ ?_; clear hK1 K1
            refine xw_cut 3 [(9, (.ptr 0 0)), (12, (vi x117.2.2)), (15, (vi x119.2.2)), (18, (vi x121.2.2)), (21, (vi x123.2.2)), (22, (.imm (List.flatMap E_Frame x125.1) x125.1.length)), (23, (.ptr 1 0)), (24, (vi x125.2.2)), (27, (vi x127.2.2)), (30, (vi x129.2.2)), (33, (vi x131.2.2)), (34, (.imm (List.flatMap E_Frame x132.1) x132.1.length)), (35, (.ptr 2 0)), (36, (vi x132.2.2)), (37, (.imm (List.flatMap E_Frame x133.1) x133.1.length)), (38, (.ptr 3 0)), (39, (vi x133.2.2)), (42, (vi x134.2.2)), (43, (.imm (List.flatMap E_Frame x135.1) x135.1.length)), (45, (vi x135.2.2)), (48, (vi x136.2.2)), (49, (.ptr 4 0)), (50, (vi x137.2)), (220, (vb (((((x111.2 == 2) && (x112.2 == 2)) && (x113.2 == 2)) && (x114.2 == 2)) && (x115.2 == 0))))] (by (try simp only [go_sem]); rfl) (by (try simp only [go_sem]); rfl) (by rfl) (fun K1 hK1 => ?_) fun tz => ?_
            ·
             refine xw_id ?_
             rcases Bool.eq_false_or_eq_true ((((x111.2 == 2) && (x112.2 == 2)) && (x113.2 == 2)) && (x114.2 == 2)) with h11 | h11
             ·
              have h11_0 : (x111.2 == 2) = true := by simp only [Bool.and_eq_true] at h11; exact h11.1.1.1
              have h11_1 : (x112.2 == 2) = true := by simp only [Bool.and_eq_true] at h11; exact h11.1.1.2
              have h11_2 : (x113.2 == 2) = true := by simp only [Bool.and_eq_true] at h11; exact h11.1.2
              have h11_3 : (x114.2 == 2) = true := by simp only [Bool.and_eq_true] at h11; exact h11.2
              try simp only [go_sem, Nat.reduceEqDiff, reduceIte, Nat.reduceAdd, Nat.reduceMul, Nat.reduceSub, Nat.reduceLT, Nat.reduceLeDiff, h11, h11_0, h11_1, h11_2, h11_3]
              exact hK1 _ ⟨rfl, (by first | rfl | (rw [h11_0]; rfl) | (rw [h11_1]; rfl) | (rw [h11_2]; rfl) | (rw [h11_3]; rfl)), (by first | rfl | (rw [h11_0]; rfl) | (rw [h11_1]; rfl) | (rw [h11_2]; rfl) | (rw [h11_3]; rfl)), (by first | rfl | (rw [h11_0]; rfl) | (rw [h11_1]; rfl) | (rw [h11_2]; rfl) | (rw [h11_3]; rfl)), (by first | rfl | (rw [h11_0]; rfl) | (rw [h11_1]; rfl) | (rw [h11_2]; rfl) | (rw [h11_3]; rfl)), (by first | rfl | (rw [h11_0]; rfl) | (rw [h11_1]; rfl) | (rw [h11_2]; rfl) | (rw [h11_3]; rfl)), (by first | rfl | (rw [h11_0]; rfl) | (rw [h11_1]; rfl) | (rw [h11_2]; rfl) | (rw [h11_3]; rfl)), (by first | rfl | (rw [h11_0]; rfl) | (rw [h11_1]; rfl) | (rw [h11_2]; rfl) | (rw [h11_3]; rfl)), (by first | rfl | (rw [h11_0]; rfl) | (rw [h11_1]; rfl) | (rw [h11_2]; rfl) | (rw [h11_3]; rfl)), (by first | rfl | (rw [h11_0]; rfl) | (rw [h11_1]; rfl) | (rw [h11_2]; rfl) | (rw [h11_3]; rfl)), (by first | rfl | (rw [h11_0]; rfl) | (rw [h11_1]; rfl) | (rw [h11_2]; rfl) | (rw [h11_3]; rfl)), (by first | rfl | (rw [h11_0]; rfl) | (rw [h11_1]; rfl) | (rw [h11_2]; rfl) | (rw [h11_3]; rfl)), (by first | rfl | (rw [h11_0]; rfl) | (rw [h11_1]; rfl) | (rw [h11_2]; rfl) | (rw [h11_3]; rfl)), (by first | rfl | (rw [h11_0]; rfl) | (rw [h11_1]; rfl) | (rw [h11_2]; rfl) | (rw [h11_3]; rfl)), (by first | rfl | (rw [h11_0]; rfl) | (rw [h11_1]; rfl) | (rw [h11_2]; rfl) | (rw [h11_3]; rfl)), (by first | rfl | (rw [h11_0]; rfl) | (rw [h11_1]; rfl) | (rw [h11_2]; rfl) | (rw [h11_3]; rfl)), (by first | rfl | (rw [h11_0]; rfl) | (rw [h11_1]; rfl) | (rw [h11_2]; rfl) | (rw [h11_3]; rfl)), (by first | rfl | (rw [h11_0]; rfl) | (rw [h11_1]; rfl) | (rw [h11_2]; rfl) | (rw [h11_3]; rfl)), (by first | rfl | (rw [h11_0]; rfl) | (rw [h11_1]; rfl) | (rw [h11_2]; rfl) | (rw [h11_3]; rfl)), (by first | rfl | (rw [h11_0]; rfl) | (rw [h11_1]; rfl) | (rw [h11_2]; rfl) | (rw [h11_3]; rfl)), (by first | rfl | (rw [h11_0]; rfl) | (rw [h11_1]; rfl) | (rw [h11_2]; rfl) | (rw [h11_3]; rfl)), (by first | rfl | (rw [h11_0]; rfl) | (rw [h11_1]; rfl) | (rw [h11_2]; rfl) | (rw [h11_3]; rfl)), (by first | rfl | (rw [h11_0]; rfl) | (rw [h11_1]; rfl) | (rw [h11_2]; rfl) | (rw [h11_3]; rfl)), (by first | rfl | (rw [h11_0]; rfl) | (rw [h11_1]; rfl) | (rw [h11_2]; rfl) | (rw [h11_3]; rfl)), (by first | rfl | (rw [h11]; rfl) | (simp only [h11, Bool.true_and, Bool.false_and, Bool.true_or, Bool.false_or, cond_true, cond_false]; done)), trivial⟩
             ·
              try simp only [go_sem, Nat.reduceEqDiff, reduceIte, Nat.reduceAdd, Nat.reduceMul, Nat.reduceSub, Nat.reduceLT, Nat.reduceLeDiff, h11]
              exact hK1 _ ⟨rfl, rfl, rfl, rfl, rfl, rfl, rfl, rfl, rfl, rfl, rfl, rfl, rfl, rfl, rfl, rfl, rfl, rfl, rfl, rfl, rfl, rfl, rfl, rfl, (by first | rfl | (rw [h11]; rfl) | (simp only [h11, Bool.true_and, Bool.false_and, Bool.true_or, Bool.false_or, cond_true, cond_false]; done)), trivial⟩
            ·
             refine xw_id ?_
             refine xw_stop 1 (by (try simp only [go_sem]); rfl) (by (try simp only [go_sem]); rfl) (by rfl) fun K1 hK1 => ?_
             refine xw_id ?_
             try simp only [go_sem, Nat.reduceEqDiff, reduceIte, Nat.reduceAdd, Nat.reduceMul, Nat.reduceSub, Nat.reduceLT, Nat.reduceLeDiff]
             refine hK1 _ ?_; clear hK1 K1
             refine xw_cut 3 [(9, (.ptr 0 0)), (15, (vi x119.2.2)), (18, (vi x121.2.2)), (21, (vi x123.2.2)), (22, (.imm (List.flatMap E_Frame x125.1) x125.1.length)), (23, (.ptr 1 0)), (24, (vi x125.2.2)), (27, (vi x127.2.2)), (30, (vi x129.2.2)), (33, (vi x131.2.2)), (34, (.imm (List.flatMap E_Frame x132.1) x132.1.length)), (35, (.ptr 2 0)), (36, (vi x132.2.2)), (37, (.imm (List.flatMap E_Frame x133.1) x133.1.length)), (38, (.ptr 3 0)), (39, (vi x133.2.2)), (42, (vi x134.2.2)), (43, (.imm (List.flatMap E_Frame x135.1) x135.1.length)), (45, (vi x135.2.2)), (48, (vi x136.2.2)), (49, (.ptr 4 0)), (50, (vi x137.2)), (224, (vb ((((((x111.2 == 2) && (x112.2 == 2)) && (x113.2 == 2)) && (x114.2 == 2)) && (x115.2 == 0)) && (x117.2.2 == 0))))] (by (try simp only [go_sem]); rfl) (by (try simp only [go_sem]); rfl) (by rfl) (fun K1 hK1 => ?_) fun tz => ?_
             ·
              refine xw_id ?_
              rcases Bool.eq_false_or_eq_true (((((x111.2 == 2) && (x112.2 == 2)) && (x113.2 == 2)) && (x114.2 == 2)) && (x115.2 == 0)) with h12 | h12
              ·
               have h12_0 : (x111.2 == 2) = true := by simp only [Bool.and_eq_true] at h12; exact h12.1.1.1.1
               have h12_1 : (x112.2 == 2) = true := by simp only [Bool.and_eq_true] at h12; exact h12.1.1.1.2
               have h12_2 : (x113.2 == 2) = true := by simp only [Bool.and_eq_true] at h12; exact h12.1.1.2
               have h12_3 : (x114.2 == 2) = true := by simp only [Bool.and_eq_true] at h12; exact h12.1.2
               have h12_4 : (x115.2 == 0) = true := by simp only [Bool.and_eq_true] at h12; exact h12.2
               try simp only [go_sem, Nat.reduceEqDiff, reduceIte, Nat.reduceAdd, Nat.reduceMul, Nat.reduceSub, Nat.reduceLT, Nat.reduceLeDiff, h12, h12_0, h12_1, h12_2, h12_3, h12_4]
               exact hK1 _ ⟨rfl, (by first | rfl | (rw [h12_0]; rfl) | (rw [h12_1]; rfl) | (rw [h12_2]; rfl) | (rw [h12_3]; rfl) | (rw [h12_4]; rfl)), (by first | rfl | (rw [h12_0]; rfl) | (rw [h12_1]; rfl) | (rw [h12_2]; rfl) | (rw [h12_3]; rfl) | (rw [h12_4]; rfl)), (by first | rfl | (rw [h12_0]; rfl) | (rw [h12_1]; rfl) | (rw [h12_2]; rfl) | (rw [h12_3]; rfl) | (rw [h12_4]; rfl)), (by first | rfl | (rw [h12_0]; rfl) | (rw [h12_1]; rfl) | (rw [h12_2]; rfl) | (rw [h12_3]; rfl) | (rw [h12_4]; rfl)), (by first | rfl | (rw [h12_0]; rfl) | (rw [h12_1]; rfl) | (rw [h12_2]; rfl) | (rw [h12_3]; rfl) | (rw [h12_4]; rfl)), (by first | rfl | (rw [h12_0]; rfl) | (rw [h12_1]; rfl) | (rw [h12_2]; rfl) | (rw [h12_3]; rfl) | (rw [h12_4]; rfl)), (by first | rfl | (rw [h12_0]; rfl) | (rw [h12_1]; rfl) | (rw [h12_2]; rfl) | (rw [h12_3]; rfl) | (rw [h12_4]; rfl)), (by first | rfl | (rw [h12_0]; rfl) | (rw [h12_1]; rfl) | (rw [h12_2]; rfl) | (rw [h12_3]; rfl) | (rw [h12_4]; rfl)), (by first | rfl | (rw [h12_0]; rfl) | (rw [h12_1]; rfl) | (rw [h12_2]; rfl) | (rw [h12_3]; rfl) | (rw [h12_4]; rfl)), (by first | rfl | (rw [h12_0]; rfl) | (rw [h12_1]; rfl) | (rw [h12_2]; rfl) | (rw [h12_3]; rfl) | (rw [h12_4]; rfl)), (by first | rfl | (rw [h12_0]; rfl) | (rw [h12_1]; rfl) | (rw [h12_2]; rfl) | (rw [h12_3]; rfl) | (rw [h12_4]; rfl)), (by first | rfl | (rw [h12_0]; rfl) | (rw [h12_1]; rfl) | (rw [h12_2]; rfl) | (rw [h12_3]; rfl) | (rw [h12_4]; rfl)), (by first | rfl | (rw [h12_0]; rfl) | (rw [h12_1]; rfl) | (rw [h12_2]; rfl) | (rw [h12_3]; rfl) | (rw [h12_4]; rfl)), (by first | rfl | (rw [h12_0]; rfl) | (rw [h12_1]; rfl) | (rw [h12_2]; rfl) | (rw [h12_3]; rfl) | (rw [h12_4]; rfl)), (by first | rfl | (rw [h12_0]; rfl) | (rw [h12_1]; rfl) | (rw [h12_2]; rfl) | (rw [h12_3]; rfl) | (rw [h12_4]; rfl)), (by first | rfl | (rw [h12_0]; rfl) | (rw [h12_1]; rfl) | (rw [h12_2]; rfl) | (rw [h12_3]; rfl) | (rw [h12_4]; rfl)), (by first | rfl | (rw [h12_0]; rfl) | (rw [h12_1]; rfl) | (rw [h12_2]; rfl) | (rw [h12_3]; rfl) | (rw [h12_4]; rfl)), (by first | rfl | (rw [h12_0]; rfl) | (rw [h12_1]; rfl) | (rw [h12_2]; rfl) | (rw [h12_3]; rfl) | (rw [h12_4]; rfl)), (by first | rfl | (rw [h12_0]; rfl) | (rw [h12_1]; rfl) | (rw [h12_2]; rfl) | (rw [h12_3]; rfl) | (rw [h12_4]; rfl)), (by first | rfl | (rw [h12_0]; rfl) | (rw [h12_1]; rfl) | (rw [h12_2]; rfl) | (rw [h12_3]; rfl) | (rw [h12_4]; rfl)), (by first | rfl | (rw [h12_0]; rfl) | (rw [h12_1]; rfl) | (rw [h12_2]; rfl) | (rw [h12_3]; rfl) | (rw [h12_4]; rfl)), (by first | rfl | (rw [h12_0]; rfl) | (rw [h12_1]; rfl) | (rw [h12_2]; rfl) | (rw [h12_3]; rfl) | (rw [h12_4]; rfl)), (by first | rfl | (rw [h12]; rfl) | (simp only [h12, Bool.true_and, Bool.false_and, Bool.true_or, Bool.false_or, cond_true, cond_false]; done)), trivial⟩
              ·
               try simp only [go_sem, Nat.reduceEqDiff, reduceIte, Nat.reduceAdd, Nat.reduceMul, Nat.reduceSub, Nat.reduceLT, Nat.reduceLeDiff, h12]
               exact hK1 _ ⟨rfl, rfl, rfl, rfl, rfl, rfl, rfl, rfl, rfl, rfl, rfl, rfl, rfl, rfl, rfl, rfl, rfl, rfl, rfl, rfl, rfl, rfl, rfl, (by first | rfl | (rw [h12]; rfl) | (simp only [h12, Bool.true_and, Bool.false_and, Bool.true_or, Bool.false_or, cond_true, cond_false]; done)), trivial⟩
             ·
              refine xw_id ?_
              try simp only [go_sem, Nat.reduceEqDiff, reduceIte, Nat.reduceAdd, Nat.reduceMul, Nat.reduceSub, Nat.reduceLT, Nat.reduceLeDiff]
              refine hKK _ _ (Wk.refl _ _ _) ?_; clear hKK KK
              refine awp_nr [9,15,18,21,22,23,24,27,30,33,34,35,36,37,38,39,42,43,45,48,49,50,53] (fun _ => rfl) fun tz => ?_
              refine awp_regW fun KK hKK => ?_
              refine xw_id ?_
              try simp only [List.append_eq, Array.toList_append, List.append_toArray, List.toList_toArray, List.cons_append, List.nil_append]
              refine xw_stop 3 (by (try simp only [go_sem]); rfl) (by (try simp only [go_sem]); rfl) (by rfl) fun K1 hK1 => ?_
              refine xw_id ?_
              try simp only [go_sem, Nat.reduceEqDiff, reduceIte, Nat.reduceAdd, Nat.reduceMul, Nat.reduceSub, Nat.reduceLT, Nat.reduceLeDiff]
              refine hK1 _ ?_; clear hK1 K1
              refine xw_cut 3 [(9, (.ptr 0 0)), (21, (vi x123.2.2)), (22, (.imm (List.flatMap E_Frame x125.1) x125.1.length)), (23, (.ptr 1 0)), (24, (vi x125.2.2)), (27, (vi x127.2.2)), (30, (vi x129.2.2)), (33, (vi x131.2.2)), (34, (.imm (List.flatMap E_Frame x132.1) x132.1.length)), (35, (.ptr 2 0)), (36, (vi x132.2.2)), (37, (.imm (List.flatMap E_Frame x133.1) x133.1.length)), (38, (.ptr 3 0)), (39, (vi x133.2.2)), (42, (vi x134.2.2)), (43, (.imm (List.flatMap E_Frame x135.1) x135.1.length)), (45, (vi x135.2.2)), (48, (vi x136.2.2)), (49, (.ptr 4 0)), (50, (vi x137.2)), (53, (vb ((((((x111.2 == 2) && (x112.2 == 2)) && (x113.2 == 2)) && (x114.2 == 2)) && (x115.2 == 0)) && (x117.2.2 == 0)))), (230, (vb ((x119.2.2 == 21) && (x121.2.2 == 21))))] (by (try simp only [go_sem]); rfl) (by (try simp only [go_sem]); rfl) (by rfl) (fun K1 hK1 => ?_) fun tz => ?_
              ·
               refine xw_id ?_
               rcases Bool.eq_false_or_eq_true (x119.2.2 == 21) with h13 | h13
               ·
                try simp only [go_sem, Nat.reduceEqDiff, reduceIte, Nat.reduceAdd, Nat.reduceMul, Nat.reduceSub, Nat.reduceLT, Nat.reduceLeDiff, h13]
                exact hK1 _ ⟨rfl, rfl, rfl, rfl, rfl, rfl, rfl, rfl, rfl, rfl, rfl, rfl, rfl, rfl, rfl, rfl, rfl, rfl, rfl, rfl, rfl, rfl, (by first | rfl | (rw [h13]; rfl) | (simp only [h13, Bool.true_and, Bool.false_and, Bool.true_or, Bool.false_or, cond_true, cond_false]; done)), trivial⟩
               ·
                try simp only [go_sem, Nat.reduceEqDiff, reduceIte, Nat.reduceAdd, Nat.reduceMul, Nat.reduceSub, Nat.reduceLT, Nat.reduceLeDiff, h13]
                exact hK1 _ ⟨rfl, rfl, rfl, rfl, rfl, rfl, rfl, rfl, rfl, rfl, rfl, rfl, rfl, rfl, rfl, rfl, rfl, rfl, rfl, rfl, rfl, rfl, (by first | rfl | (rw [h13]; rfl) | (simp only [h13, Bool.true_and, Bool.false_and, Bool.true_or, Bool.false_or, cond_true, cond_false]; done)), trivial⟩
              ·
               refine xw_id ?_
               refine xw_stop 1 (by (try simp only [go_sem]); rfl) (by (try simp only [go_sem]); rfl) (by rfl) fun K1 hK1 => ?_
               refine xw_id ?_
               try simp only [go_sem, Nat.reduceEqDiff, reduceIte, Nat.reduceAdd, Nat.reduceMul, Nat.reduceSub, Nat.reduceLT, Nat.reduceLeDiff]
               refine hK1 _ ?_; clear hK1 K1
               refine xw_cut 3 [(9, (.ptr 0 0)), (22, (.imm (List.flatMap E_Frame x125.1) x125.1.length)), (23, (.ptr 1 0)), (24, (vi x125.2.2)), (27, (vi x127.2.2)), (30, (vi x129.2.2)), (33, (vi x131.2.2)), (34, (.imm (List.flatMap E_Frame x132.1) x132.1.length)), (35, (.ptr 2 0)), (36, (vi x132.2.2)), (37, (.imm (List.flatMap E_Frame x133.1) x133.1.length)), (38, (.ptr 3 0)), (39, (vi x133.2.2)), (42, (vi x134.2.2)), (43, (.imm (List.flatMap E_Frame x135.1) x135.1.length)), (45, (vi x135.2.2)), (48, (vi x136.2.2)), (49, (.ptr 4 0)), (50, (vi x137.2)), (53, (vb ((((((x111.2 == 2) && (x112.2 == 2)) && (x113.2 == 2)) && (x114.2 == 2)) && (x115.2 == 0)) && (x117.2.2 == 0)))), (234, (vb (((x119.2.2 == 21) && (x121.2.2 == 21)) && (x123.2.2 == 21))))] (by (try simp only [go_sem]); rfl) (by (try simp only [go_sem]); rfl) (by rfl) (fun K1 hK1 => ?_) fun tz => ?_
               ·
                refine xw_id ?_
                rcases Bool.eq_false_or_eq_true ((x119.2.2 == 21) && (x121.2.2 == 21)) with h14 | h14
                ·
                 have h14_0 : (x119.2.2 == 21) = true := by simp only [Bool.and_eq_true] at h14; exact h14.1
                 have h14_1 : (x121.2.2 == 21) = true := by simp only [Bool.and_eq_true] at h14; exact h14.2
                 try simp only [go_sem, Nat.reduceEqDiff, reduceIte, Nat.reduceAdd, Nat.reduceMul, Nat.reduceSub, Nat.reduceLT, Nat.reduceLeDiff, h14, h14_0, h14_1]
                 exact hK1 _ ⟨rfl, (by first | rfl | (rw [h14_0]; rfl) | (rw [h14_1]; rfl)), (by first | rfl | (rw [h14_0]; rfl) | (rw [h14_1]; rfl)), (by first | rfl | (rw [h14_0]; rfl) | (rw [h14_1]; rfl)), (by first | rfl | (rw [h14_0]; rfl) | (rw [h14_1]; rfl)), (by first | rfl | (rw [h14_0]; rfl) | (rw [h14_1]; rfl)), (by first | rfl | (rw [h14_0]; rfl) | (rw [h14_1]; rfl)), (by first | rfl | (rw [h14_0]; rfl) | (rw [h14_1]; rfl)), (by first | rfl | (rw [h14_0]; rfl) | (rw [h14_1]; rfl)), (by first | rfl | (rw [h14_0]; rfl) | (rw [h14_1]; rfl)), (by first | rfl | (rw [h14_0]; rfl) | (rw [h14_1]; rfl)), (by first | rfl | (rw [h14_0]; rfl) | (rw [h14_1]; rfl)), (by first | rfl | (rw [h14_0]; rfl) | (rw [h14_1]; rfl)), (by first | rfl | (rw [h14_0]; rfl) | (rw [h14_1]; rfl)), (by first | rfl | (rw [h14_0]; rfl) | (rw [h14_1]; rfl)), (by first | rfl | (rw [h14_0]; rfl) | (rw [h14_1]; rfl)), (by first | rfl | (rw [h14_0]; rfl) | (rw [h14_1]; rfl)), (by first | rfl | (rw [h14_0]; rfl) | (rw [h14_1]; rfl)), (by first | rfl | (rw [h14_0]; rfl) | (rw [h14_1]; rfl)), (by first | rfl | (rw [h14_0]; rfl) | (rw [h14_1]; rfl)), (by first | rfl | (rw [h14_0]; rfl) | (rw [h14_1]; rfl)), (by first | rfl | (rw [h14]; rfl) | (simp only [h14, Bool.true_and, Bool.false_and, Bool.true_or, Bool.false_or, cond_true, cond_false]; done)), trivial⟩
                ·
                 try simp only [go_sem, Nat.reduceEqDiff, reduceIte, Nat.reduceAdd, Nat.reduceMul, Nat.reduceSub, Nat.reduceLT, Nat.reduceLeDiff, h14]
                 exact hK1 _ ⟨rfl, rfl, rfl, rfl, rfl, rfl, rfl, rfl, rfl, rfl, rfl, rfl, rfl, rfl, rfl, rfl, rfl, rfl, rfl, rfl, rfl, (by first | rfl | (rw [h14]; rfl) | (simp only [h14, Bool.true_and, Bool.false_and, Bool.true_or, Bool.false_or, cond_true, cond_false]; done)), trivial⟩
               ·
                refine xw_id ?_
                refine xw_stop 1 (by (try simp only [go_sem]); rfl) (by (try simp only [go_sem]); rfl) (by rfl) fun K1 hK1 => ?_
                refine xw_id ?_
                try simp only [go_sem, Nat.reduceEqDiff, reduceIte, Nat.reduceAdd, Nat.reduceMul, Nat.reduceSub, Nat.reduceLT, Nat.reduceLeDiff]
                refine hK1 _ ?_; clear hK1 K1
                refine xw_cut 3 [(9, (.ptr 0 0)), (22, (.imm (List.flatMap E_Frame x125.1) x125.1.length)), (23, (.ptr 1 0)), (27, (vi x127.2.2)), (30, (vi x129.2.2)), (33, (vi x131.2.2)), (34, (.imm (List.flatMap E_Frame x132.1) x132.1.length)), (35, (.ptr 2 0)), (36, (vi x132.2.2)), (37, (.imm (List.flatMap E_Frame x133.1) x133.1.length)), (38, (.ptr 3 0)), (39, (vi x133.2.2)), (42, (vi x134.2.2)), (43, (.imm (List.flatMap E_Frame x135.1) x135.1.length)), (45, (vi x135.2.2)), (48, (vi x136.2.2)), (49, (.ptr 4 0)), (50, (vi x137.2)), (53, (vb ((((((x111.2 == 2) && (x112.2 == 2)) && (x113.2 == 2)) && (x114.2 == 2)) && (x115.2 == 0)) && (x117.2.2 == 0)))), (238, (vb ((((x119.2.2 == 21) && (x121.2.2 == 21)) && (x123.2.2 == 21)) && (x125.2.2 == 0))))] (by (try simp only [go_sem]); rfl) (by (try simp only [go_sem]); rfl) (by rfl) (fun K1 hK1 => ?_) fun tz => ?_
                ·
                 refine xw_id ?_
                 rcases Bool.eq_false_or_eq_true (((x119.2.2 == 21) && (x121.2.2 == 21)) && (x123.2.2 == 21)) with h15 | h15
                 ·
                  have h15_0 : (x119.2.2 == 21) = true := by simp only [Bool.and_eq_true] at h15; exact h15.1.1
                  have h15_1 : (x121.2.2 == 21) = true := by simp only [Bool.and_eq_true] at h15; exact h15.1.2
                  have h15_2 : (x123.2.2 == 21) = true := by simp only [Bool.and_eq_true] at h15; exact h15.2
                  try simp only [go_sem, Nat.reduceEqDiff, reduceIte, Nat.reduceAdd, Nat.reduceMul, Nat.reduceSub, Nat.reduceLT, Nat.reduceLeDiff, h15, h15_0, h15_1, h15_2]
                  exact hK1 _ ⟨rfl, (by first | rfl | (rw [h15_0]; rfl) | (rw [h15_1]; rfl) | (rw [h15_2]; rfl)), (by first | rfl | (rw [h15_0]; rfl) | (rw [h15_1]; rfl) | (rw [h15_2]; rfl)), (by first | rfl | (rw [h15_0]; rfl) | (rw [h15_1]; rfl) | (rw [h15_2]; rfl)), (by first | rfl | (rw [h15_0]; rfl) | (rw [h15_1]; rfl) | (rw [h15_2]; rfl)), (by first | rfl | (rw [h15_0]; rfl) | (rw [h15_1]; rfl) | (rw [h15_2]; rfl)), (by first | rfl | (rw [h15_0]; rfl) | (rw [h15_1]; rfl) | (rw [h15_2]; rfl)), (by first | rfl | (rw [h15_0]; rfl) | (rw [h15_1]; rfl) | (rw [h15_2]; rfl)), (by first | rfl | (rw [h15_0]; rfl) | (rw [h15_1]; rfl) | (rw [h15_2]; rfl)), (by first | rfl | (rw [h15_0]; rfl) | (rw [h15_1]; rfl) | (rw [h15_2]; rfl)), (by first | rfl | (rw [h15_0]; rfl) | (rw [h15_1]; rfl) | (rw [h15_2]; rfl)), (by first | rfl | (rw [h15_0]; rfl) | (rw [h15_1]; rfl) | (rw [h15_2]; rfl)), (by first | rfl | (rw [h15_0]; rfl) | (rw [h15_1]; rfl) | (rw [h15_2]; rfl)), (by first | rfl | (rw [h15_0]; rfl) | (rw [h15_1]; rfl) | (rw [h15_2]; rfl)), (by first | rfl | (rw [h15_0]; rfl) | (rw [h15_1]; rfl) | (rw [h15_2]; rfl)), (by first | rfl | (rw [h15_0]; rfl) | (rw [h15_1]; rfl) | (rw [h15_2]; rfl)), (by first | rfl | (rw [h15_0]; rfl) | (rw [h15_1]; rfl) | (rw [h15_2]; rfl)), (by first | rfl | (rw [h15_0]; rfl) | (rw [h15_1]; rfl) | (rw [h15_2]; rfl)), (by first | rfl | (rw [h15_0]; rfl) | (rw [h15_1]; rfl) | (rw [h15_2]; rfl)), (by first | rfl | (rw [h15_0]; rfl) | (rw [h15_1]; rfl) | (rw [h15_2]; rfl)), (by first | rfl | (rw [h15]; rfl) | (simp only [h15, Bool.true_and, Bool.false_and, Bool.true_or, Bool.false_or, cond_true, cond_false]; done)), trivial⟩
                 ·
                  try simp only [go_sem, Nat.reduceEqDiff, reduceIte, Nat.reduceAdd, Nat.reduceMul, Nat.reduceSub, Nat.reduceLT, Nat.reduceLeDiff, h15]
                  exact hK1 _ ⟨rfl, rfl, rfl, rfl, rfl, rfl, rfl, rfl, rfl, rfl, rfl, rfl, rfl, rfl, rfl, rfl, rfl, rfl, rfl, rfl, (by first | rfl | (rw [h15]; rfl) | (simp only [h15, Bool.true_and, Bool.false_and, Bool.true_or, Bool.false_or, cond_true, cond_false]; done)), trivial⟩
                ·
                 refine xw_id ?_
                 rcases Bool.eq_false_or_eq_true ((((x119.2.2 == 21) && (x121.2.2 == 21)) && (x123.2.2 == 21)) && (x125.2.2 == 0)) with h16 | h16
                 ·
                  have h0 := cT h0 h16
                  obtain ⟨x148, bx148, h0⟩ := bnd h0
                  try simp only [go_sem, Nat.reduceEqDiff, reduceIte, Nat.reduceAdd, Nat.reduceMul, Nat.reduceSub, Nat.reduceLT, Nat.reduceLeDiff, h16]
                  refine xcall_L (by first | (simp only [go_sem, fz, Nat.reduceEqDiff, reduceIte, Nat.reduceAdd, Nat.reduceMul, Nat.reduceSub, Nat.reduceLT, Nat.reduceLeDiff, h16]; done) | (simp only [go_sem, fz, Nat.reduceEqDiff, reduceIte, Nat.reduceAdd, Nat.reduceMul, Nat.reduceSub, Nat.reduceLT, Nat.reduceLeDiff, h16]; rfl) | (simp only [go_sem, fz, List.length_set, ble_self, take_set, cond_true, cond_false, Nat.reduceEqDiff, reduceIte, Nat.reduceAdd, Nat.reduceMul, Nat.reduceSub, Nat.reduceLT, Nat.reduceLeDiff, h16]; done) | (simp only [go_sem, fz, List.length_set, ble_self, take_set, cond_true, cond_false, Nat.reduceEqDiff, reduceIte, Nat.reduceAdd, Nat.reduceMul, Nat.reduceSub, Nat.reduceLT, Nat.reduceLeDiff, h16]; rfl)) (hotspotlaw18_numbers_p x125.1 [12] bx148) (Bare.v _) ?_; try dsimp only
                  try refine xw_id ?_
                  refine xw_stop 2 (by (try simp only [go_sem]); rfl) (by (try simp only [go_sem]); rfl) (by rfl) fun K1 hK1 => ?_
                  refine xw_id ?_
                  try simp only [go_sem, Nat.reduceEqDiff, reduceIte, Nat.reduceAdd, Nat.reduceMul, Nat.reduceSub, Nat.reduceLT, Nat.reduceLeDiff, h16]
                  refine hK1 _ ?_; clear hK1 K1
                  refine xw_cut 4 [(9, (.ptr 0 0)), (23, (.ptr 1 0)), (27, (vi x127.2.2)), (30, (vi x129.2.2)), (33, (vi x131.2.2)), (34, (.imm (List.flatMap E_Frame x132.1) x132.1.length)), (35, (.ptr 2 0)), (36, (vi x132.2.2)), (37, (.imm (List.flatMap E_Frame x133.1) x133.1.length)), (38, (.ptr 3 0)), (39, (vi x133.2.2)), (42, (vi x134.2.2)), (43, (.imm (List.flatMap E_Frame x135.1) x135.1.length)), (45, (vi x135.2.2)), (48, (vi x136.2.2)), (49, (.ptr 4 0)), (50, (vi x137.2)), (53, (vb ((((((x111.2 == 2) && (x112.2 == 2)) && (x113.2 == 2)) && (x114.2 == 2)) && (x115.2 == 0)) && (x117.2.2 == 0)))), (248, (vb (x148 && (x125.2.1.Start == 2050))))] (by (try simp only [go_sem]); rfl) (by (try simp only [go_sem]); rfl) (by rfl) (fun K1 hK1 => ?_) fun tz => ?_
                  ·
                   refine xw_id ?_
                   rcases Bool.eq_false_or_eq_true x148 with h17 | h17
                   ·
                    try simp only [go_sem, Nat.reduceEqDiff, reduceIte, Nat.reduceAdd, Nat.reduceMul, Nat.reduceSub, Nat.reduceLT, Nat.reduceLeDiff, h16, h17]
                    exact hK1 _ ⟨rfl, rfl, rfl, rfl, rfl, rfl, rfl, rfl, rfl, rfl, rfl, rfl, rfl, rfl, rfl, rfl, rfl, rfl, rfl, (by first | rfl | (rw [h17]; rfl) | (simp only [h17, Bool.true_and, Bool.false_and, Bool.true_or, Bool.false_or, cond_true, cond_false]; done)), trivial⟩
                   ·
                    try simp only [go_sem, Nat.reduceEqDiff, reduceIte, Nat.reduceAdd, Nat.reduceMul, Nat.reduceSub, Nat.reduceLT, Nat.reduceLeDiff, h16, h17]
                    exact hK1 _ ⟨rfl, rfl, rfl, rfl, rfl, rfl, rfl, rfl, rfl, rfl, rfl, rfl, rfl, rfl, rfl, rfl, rfl, rfl, rfl, (by first | rfl | (rw [h17]; rfl) | (simp only [h17, Bool.true_and, Bool.false_and, Bool.true_or, Bool.false_or, cond_true, cond_false]; done)), trivial⟩
                  ·
                   refine xw_id ?_
                   refine xw_stop 1 (by (try simp only [go_sem]); rfl) (by (try simp only [go_sem]); rfl) (by rfl) fun K1 hK1 => ?_
                   refine xw_id ?_
                   try simp only [go_sem, Nat.reduceEqDiff, reduceIte, Nat.reduceAdd, Nat.reduceMul, Nat.reduceSub, Nat.reduceLT, Nat.reduceLeDiff, h16]
                   refine hK1 _ ?_; clear hK1 K1
                   refine xw_cut 5 [(9, (.ptr 0 0)), (27, (vi x127.2.2)), (30, (vi x129.2.2)), (33, (vi x131.2.2)), (34, (.imm (List.flatMap E_Frame x132.1) x132.1.length)), (35, (.ptr 2 0)), (36, (vi x132.2.2)), (37, (.imm (List.flatMap E_Frame x133.1) x133.1.length)), (38, (.ptr 3 0)), (39, (vi x133.2.2)), (42, (vi x134.2.2)), (43, (.imm (List.flatMap E_Frame x135.1) x135.1.length)), (45, (vi x135.2.2)), (48, (vi x136.2.2)), (49, (.ptr 4 0)), (50, (vi x137.2)), (53, (vb ((((((x111.2 == 2) && (x112.2 == 2)) && (x113.2 == 2)) && (x114.2 == 2)) && (x115.2 == 0)) && (x117.2.2 == 0)))), (254, (vb ((x148 && (x125.2.1.Start == 2050)) && ((x125.2.1.Held.length : Int) == 1))))] (by (try simp only [go_sem]); rfl) (by (try simp only [go_sem]); rfl) (by rfl) (fun K1 hK1 => ?_) fun tz => ?_
                   ·
                    refine xw_id ?_
                    rcases Bool.eq_false_or_eq_true (x148 && (x125.2.1.Start == 2050)) with h18 | h18
                    ·
                     have h18_0 : (x148) = true := by simp only [Bool.and_eq_true] at h18; exact h18.1
                     have h18_1 : (x125.2.1.Start == 2050) = true := by simp only [Bool.and_eq_true] at h18; exact h18.2
                     try simp only [go_sem, Nat.reduceEqDiff, reduceIte, Nat.reduceAdd, Nat.reduceMul, Nat.reduceSub, Nat.reduceLT, Nat.reduceLeDiff, Int.reduceToNat, Int.reduceBEq, Int.reduceBNe, Int.reduceLT, Int.reduceLE, Int.reduceAdd, Int.reduceSub, Int.reduceMul, Int.reduceNeg, Int.reduceEq, Int.reduceNe, h16, h18, h18_0, h18_1]
                     exact hK1 _ ⟨rfl, (by first | rfl | (rw [h18_0]; rfl) | (rw [h18_1]; rfl)), (by first | rfl | (rw [h18_0]; rfl) | (rw [h18_1]; rfl)), (by first | rfl | (rw [h18_0]; rfl) | (rw [h18_1]; rfl)), (by first | rfl | (rw [h18_0]; rfl) | (rw [h18_1]; rfl)), (by first | rfl | (rw [h18_0]; rfl) | (rw [h18_1]; rfl)), (by first | rfl | (rw [h18_0]; rfl) | (rw [h18_1]; rfl)), (by first | rfl | (rw [h18_0]; rfl) | (rw [h18_1]; rfl)), (by first | rfl | (rw [h18_0]; rfl) | (rw [h18_1]; rfl)), (by first | rfl | (rw [h18_0]; rfl) | (rw [h18_1]; rfl)), (by first | rfl | (rw [h18_0]; rfl) | (rw [h18_1]; rfl)), (by first | rfl | (rw [h18_0]; rfl) | (rw [h18_1]; rfl)), (by first | rfl | (rw [h18_0]; rfl) | (rw [h18_1]; rfl)), (by first | rfl | (rw [h18_0]; rfl) | (rw [h18_1]; rfl)), (by first | rfl | (rw [h18_0]; rfl) | (rw [h18_1]; rfl)), (by first | rfl | (rw [h18_0]; rfl) | (rw [h18_1]; rfl)), (by first | rfl | (rw [h18_0]; rfl) | (rw [h18_1]; rfl)), (by first | rfl | (rw [h18_0]; rfl) | (rw [h18_1]; rfl)), (by first | rfl | (rw [h18]; rfl) | (simp only [h18, Bool.true_and, Bool.false_and, Bool.true_or, Bool.false_or, cond_true, cond_false]; done)), trivial⟩
                    ·
                     try simp only [go_sem, Nat.reduceEqDiff, reduceIte, Nat.reduceAdd, Nat.reduceMul, Nat.reduceSub, Nat.reduceLT, Nat.reduceLeDiff, h16, h18]
                     exact hK1 _ ⟨rfl, rfl, rfl, rfl, rfl, rfl, rfl, rfl, rfl, rfl, rfl, rfl, rfl, rfl, rfl, rfl, rfl, rfl, (by first | rfl | (rw [h18]; rfl) | (simp only [h18, Bool.true_and, Bool.false_and, Bool.true_or, Bool.false_or, cond_true, cond_false]; done)), trivial⟩
                   ·
                    refine xw_id ?_
                    refine xw_stop 1 (by (try simp only [go_sem]); rfl) (by (try simp only [go_sem]); rfl) (by rfl) fun K1 hK1 => ?_
                    refine xw_id ?_
                    try simp only [go_sem, Nat.reduceEqDiff, reduceIte, Nat.reduceAdd, Nat.reduceMul, Nat.reduceSub, Nat.reduceLT, Nat.reduceLeDiff, h16]
                    refine hK1 _ ?_; clear hK1 K1
                    refine xw_cut 3 [(9, (.ptr 0 0)), (30, (vi x129.2.2)), (33, (vi x131.2.2)), (34, (.imm (List.flatMap E_Frame x132.1) x132.1.length)), (35, (.ptr 2 0)), (36, (vi x132.2.2)), (37, (.imm (List.flatMap E_Frame x133.1) x133.1.length)), (38, (.ptr 3 0)), (39, (vi x133.2.2)), (42, (vi x134.2.2)), (43, (.imm (List.flatMap E_Frame x135.1) x135.1.length)), (45, (vi x135.2.2)), (48, (vi x136.2.2)), (49, (.ptr 4 0)), (50, (vi x137.2)), (53, (vb ((((((x111.2 == 2) && (x112.2 == 2)) && (x113.2 == 2)) && (x114.2 == 2)) && (x115.2 == 0)) && (x117.2.2 == 0)))), (258, (vb (((x148 && (x125.2.1.Start == 2050)) && ((x125.2.1.Held.length : Int) == 1)) && (x127.2.2 == 2))))] (by (try simp only [go_sem]); rfl) (by (try simp only [go_sem]); rfl) (by rfl) (fun K1 hK1 => ?_) fun tz => ?_
                    ·
                     refine xw_id ?_
                     rcases Bool.eq_false_or_eq_true ((x148 && (x125.2.1.Start == 2050)) && ((x125.2.1.Held.length : Int) == 1)) with h19 | h19
                     ·
                      have h19_0 : (x148) = true := by simp only [Bool.and_eq_true] at h19; exact h19.1.1
                      have h19_1 : (x125.2.1.Start == 2050) = true := by simp only [Bool.and_eq_true] at h19; exact h19.1.2
                      have h19_2 : ((x125.2.1.Held.length : Int) == 1) = true := by simp only [Bool.and_eq_true] at h19; exact h19.2
                      try simp only [go_sem, Nat.reduceEqDiff, reduceIte, Nat.reduceAdd, Nat.reduceMul, Nat.reduceSub, Nat.reduceLT, Nat.reduceLeDiff, h16, h19, h19_0, h19_1, h19_2]
                      exact hK1 _ ⟨rfl, (by first | rfl | (rw [h19_0]; rfl) | (rw [h19_1]; rfl) | (rw [h19_2]; rfl)), (by first | rfl | (rw [h19_0]; rfl) | (rw [h19_1]; rfl) | (rw [h19_2]; rfl)), (by first | rfl | (rw [h19_0]; rfl) | (rw [h19_1]; rfl) | (rw [h19_2]; rfl)), (by first | rfl | (rw [h19_0]; rfl) | (rw [h19_1]; rfl) | (rw [h19_2]; rfl)), (by first | rfl | (rw [h19_0]; rfl) | (rw [h19_1]; rfl) | (rw [h19_2]; rfl)), (by first | rfl | (rw [h19_0]; rfl) | (rw [h19_1]; rfl) | (rw [h19_2]; rfl)), (by first | rfl | (rw [h19_0]; rfl) | (rw [h19_1]; rfl) | (rw [h19_2]; rfl)), (by first | rfl | (rw [h19_0]; rfl) | (rw [h19_1]; rfl) | (rw [h19_2]; rfl)), (by first | rfl | (rw [h19_0]; rfl) | (rw [h19_1]; rfl) | (rw [h19_2]; rfl)), (by first | rfl | (rw [h19_0]; rfl) | (rw [h19_1]; rfl) | (rw [h19_2]; rfl)), (by first | rfl | (rw [h19_0]; rfl) | (rw [h19_1]; rfl) | (rw [h19_2]; rfl)), (by first | rfl | (rw [h19_0]; rfl) | (rw [h19_1]; rfl) | (rw [h19_2]; rfl)), (by first | rfl | (rw [h19_0]; rfl) | (rw [h19_1]; rfl) | (rw [h19_2]; rfl)), (by first | rfl | (rw [h19_0]; rfl) | (rw [h19_1]; rfl) | (rw [h19_2]; rfl)), (by first | rfl | (rw [h19_0]; rfl) | (rw [h19_1]; rfl) | (rw [h19_2]; rfl)), (by first | rfl | (rw [h19_0]; rfl) | (rw [h19_1]; rfl) | (rw [h19_2]; rfl)), (by first | rfl | (rw [h19]; rfl) | (simp only [h19, Bool.true_and, Bool.false_and, Bool.true_or, Bool.false_or, cond_true, cond_false]; done)), trivial⟩
                     ·
                      try simp only [go_sem, Nat.reduceEqDiff, reduceIte, Nat.reduceAdd, Nat.reduceMul, Nat.reduceSub, Nat.reduceLT, Nat.reduceLeDiff, h16, h19]
                      exact hK1 _ ⟨rfl, rfl, rfl, rfl, rfl, rfl, rfl, rfl, rfl, rfl, rfl, rfl, rfl, rfl, rfl, rfl, rfl, (by first | rfl | (rw [h19]; rfl) | (simp only [h19, Bool.true_and, Bool.false_and, Bool.true_or, Bool.false_or, cond_true, cond_false]; done)), trivial⟩
                    ·
                     refine xw_id ?_
                     refine xw_stop 1 (by (try simp only [go_sem]); rfl) (by (try simp only [go_sem]); rfl) (by rfl) fun K1 hK1 => ?_
                     refine xw_id ?_
                     try simp only [go_sem, Nat.reduceEqDiff, reduceIte, Nat.reduceAdd, Nat.reduceMul, Nat.reduceSub, Nat.reduceLT, Nat.reduceLeDiff, h16]
                     refine hK1 _ ?_; clear hK1 K1
                     refine xw_cut 3 [(9, (.ptr 0 0)), (33, (vi x131.2.2)), (34, (.imm (List.flatMap E_Frame x132.1) x132.1.length)), (35, (.ptr 2 0)), (36, (vi x132.2.2)), (37, (.imm (List.flatMap E_Frame x133.1) x133.1.length)), (38, (.ptr 3 0)), (39, (vi x133.2.2)), (42, (vi x134.2.2)), (43, (.imm (List.flatMap E_Frame x135.1) x135.1.length)), (45, (vi x135.2.2)), (48, (vi x136.2.2)), (49, (.ptr 4 0)), (50, (vi x137.2)), (53, (vb ((((((x111.2 == 2) && (x112.2 == 2)) && (x113.2 == 2)) && (x114.2 == 2)) && (x115.2 == 0)) && (x117.2.2 == 0)))), (262, (vb ((((x148 && (x125.2.1.Start == 2050)) && ((x125.2.1.Held.length : Int) == 1)) && (x127.2.2 == 2)) && (x129.2.2 == 2))))] (by (try simp only [go_sem]); rfl) (by (try simp only [go_sem]); rfl) (by rfl) (fun K1 hK1 => ?_) fun tz => ?_
                     ·
                      refine xw_id ?_
                      rcases Bool.eq_false_or_eq_true (((x148 && (x125.2.1.Start == 2050)) && ((x125.2.1.Held.length : Int) == 1)) && (x127.2.2 == 2)) with h20 | h20
                      ·
                       have h20_0 : (x148) = true := by simp only [Bool.and_eq_true] at h20; exact h20.1.1.1
                       have h20_1 : (x125.2.1.Start == 2050) = true := by simp only [Bool.and_eq_true] at h20; exact h20.1.1.2
                       have h20_2 : ((x125.2.1.Held.length : Int) == 1) = true := by simp only [Bool.and_eq_true] at h20; exact h20.1.2
                       have h20_3 : (x127.2.2 == 2) = true := by simp only [Bool.and_eq_true] at h20; exact h20.2
                       try simp only [go_sem, Nat.reduceEqDiff, reduceIte, Nat.reduceAdd, Nat.reduceMul, Nat.reduceSub, Nat.reduceLT, Nat.reduceLeDiff, h16, h20, h20_0, h20_1, h20_2, h20_3]
                       exact hK1 _ ⟨rfl, (by first | rfl | (rw [h20_0]; rfl) | (rw [h20_1]; rfl) | (rw [h20_2]; rfl) | (rw [h20_3]; rfl)), (by first | rfl | (rw [h20_0]; rfl) | (rw [h20_1]; rfl) | (rw [h20_2]; rfl) | (rw [h20_3]; rfl)), (by first | rfl | (rw [h20_0]; rfl) | (rw [h20_1]; rfl) | (rw [h20_2]; rfl) | (rw [h20_3]; rfl)), (by first | rfl | (rw [h20_0]; rfl) | (rw [h20_1]; rfl) | (rw [h20_2]; rfl) | (rw [h20_3]; rfl)), (by first | rfl | (rw [h20_0]; rfl) | (rw [h20_1]; rfl) | (rw [h20_2]; rfl) | (rw [h20_3]; rfl)), (by first | rfl | (rw [h20_0]; rfl) | (rw [h20_1]; rfl) | (rw [h20_2]; rfl) | (rw [h20_3]; rfl)), (by first | rfl | (rw [h20_0]; rfl) | (rw [h20_1]; rfl) | (rw [h20_2]; rfl) | (rw [h20_3]; rfl)), (by first | rfl | (rw [h20_0]; rfl) | (rw [h20_1]; rfl) | (rw [h20_2]; rfl) | (rw [h20_3]; rfl)), (by first | rfl | (rw [h20_0]; rfl) | (rw [h20_1]; rfl) | (rw [h20_2]; rfl) | (rw [h20_3]; rfl)), (by first | rfl | (rw [h20_0]; rfl) | (rw [h20_1]; rfl) | (rw [h20_2]; rfl) | (rw [h20_3]; rfl)), (by first | rfl | (rw [h20_0]; rfl) | (rw [h20_1]; rfl) | (rw [h20_2]; rfl) | (rw [h20_3]; rfl)), (by first | rfl | (rw [h20_0]; rfl) | (rw [h20_1]; rfl) | (rw [h20_2]; rfl) | (rw [h20_3]; rfl)), (by first | rfl | (rw [h20_0]; rfl) | (rw [h20_1]; rfl) | (rw [h20_2]; rfl) | (rw [h20_3]; rfl)), (by first | rfl | (rw [h20_0]; rfl) | (rw [h20_1]; rfl) | (rw [h20_2]; rfl) | (rw [h20_3]; rfl)), (by first | rfl | (rw [h20_0]; rfl) | (rw [h20_1]; rfl) | (rw [h20_2]; rfl) | (rw [h20_3]; rfl)), (by first | rfl | (rw [h20]; rfl) | (simp only [h20, Bool.true_and, Bool.false_and, Bool.true_or, Bool.false_or, cond_true, cond_false]; done)), trivial⟩
                      ·
                       try simp only [go_sem, Nat.reduceEqDiff, reduceIte, Nat.reduceAdd, Nat.reduceMul, Nat.reduceSub, Nat.reduceLT, Nat.reduceLeDiff, h16, h20]
                       exact hK1 _ ⟨rfl, rfl, rfl, rfl, rfl, rfl, rfl, rfl, rfl, rfl, rfl, rfl, rfl, rfl, rfl, rfl, (by first | rfl | (rw [h20]; rfl) | (simp only [h20, Bool.true_and, Bool.false_and, Bool.true_or, Bool.false_or, cond_true, cond_false]; done)), trivial⟩
                     ·
                      refine xw_id ?_
                      refine xw_stop 1 (by (try simp only [go_sem]); rfl) (by (try simp only [go_sem]); rfl) (by rfl) fun K1 hK1 => ?_
                      refine xw_id ?_
                      try simp only [go_sem, Nat.reduceEqDiff, reduceIte, Nat.reduceAdd, Nat.reduceMul, Nat.reduceSub, Nat.reduceLT, Nat.reduceLeDiff, h16]
                      refine hK1 _ ?_; clear hK1 K1
                      refine xw_cut 3 [(9, (.ptr 0 0)), (34, (.imm (List.flatMap E_Frame x132.1) x132.1.length)), (35, (.ptr 2 0)), (36, (vi x132.2.2)), (37, (.imm (List.flatMap E_Frame x133.1) x133.1.length)), (38, (.ptr 3 0)), (39, (vi x133.2.2)), (42, (vi x134.2.2)), (43, (.imm (List.flatMap E_Frame x135.1) x135.1.length)), (45, (vi x135.2.2)), (48, (vi x136.2.2)), (49, (.ptr 4 0)), (50, (vi x137.2)), (53, (vb ((((((x111.2 == 2) && (x112.2 == 2)) && (x113.2 == 2)) && (x114.2 == 2)) && (x115.2 == 0)) && (x117.2.2 == 0)))), (266, (vb (((((x148 && (x125.2.1.Start == 2050)) && ((x125.2.1.Held.length : Int) == 1)) && (x127.2.2 == 2)) && (x129.2.2 == 2)) && (x131.2.2 == 8))))] (by (try simp only [go_sem]); rfl) (by (try simp only [go_sem]); rfl) (by rfl) (fun K1 hK1 => ?_) fun tz => ?_
                      ·
                       refine xw_id ?_
                       rcases Bool.eq_false_or_eq_true ((((x148 && (x125.2.1.Start == 2050)) && ((x125.2.1.Held.length : Int) == 1)) && (x127.2.2 == 2)) && (x129.2.2 == 2)) with h21 | h21
                       ·
                        have h21_0 : (x148) = true := by simp only [Bool.and_eq_true] at h21; exact h21.1.1.1.1
                        have h21_1 : (x125.2.1.Start == 2050) = true := by simp only [Bool.and_eq_true] at h21; exact h21.1.1.1.2
                        have h21_2 : ((x125.2.1.Held.length : Int) == 1) = true := by simp only [Bool.and_eq_true] at h21; exact h21.1.1.2
                        have h21_3 : (x127.2.2 == 2) = true := by simp only [Bool.and_eq_true] at h21; exact h21.1.2
                        have h21_4 : (x129.2.2 == 2) = true := by simp only [Bool.and_eq_true] at h21; exact h21.2
                        try simp only [go_sem, Nat.reduceEqDiff, reduceIte, Nat.reduceAdd, Nat.reduceMul, Nat.reduceSub, Nat.reduceLT, Nat.reduceLeDiff, h16, h21, h21_0, h21_1, h21_2, h21_3, h21_4]
                        exact hK1 _ ⟨rfl, (by first | rfl | (rw [h21_0]; rfl) | (rw [h21_1]; rfl) | (rw [h21_2]; rfl) | (rw [h21_3]; rfl) | (rw [h21_4]; rfl)), (by first | rfl | (rw [h21_0]; rfl) | (rw [h21_1]; rfl) | (rw [h21_2]; rfl) | (rw [h21_3]; rfl) | (rw [h21_4]; rfl)), (by first | rfl | (rw [h21_0]; rfl) | (rw [h21_1]; rfl) | (rw [h21_2]; rfl) | (rw [h21_3]; rfl) | (rw [h21_4]; rfl)), (by first | rfl | (rw [h21_0]; rfl) | (rw [h21_1]; rfl) | (rw [h21_2]; rfl) | (rw [h21_3]; rfl) | (rw [h21_4]; rfl)), (by first | rfl | (rw [h21_0]; rfl) | (rw [h21_1]; rfl) | (rw [h21_2]; rfl) | (rw [h21_3]; rfl) | (rw [h21_4]; rfl)), (by first | rfl | (rw [h21_0]; rfl) | (rw [h21_1]; rfl) | (rw [h21_2]; rfl) | (rw [h21_3]; rfl) | (rw [h21_4]; rfl)), (by first | rfl | (rw [h21_0]; rfl) | (rw [h21_1]; rfl) | (rw [h21_2]; rfl) | (rw [h21_3]; rfl) | (rw [h21_4]; rfl)), (by first | rfl | (rw [h21_0]; rfl) | (rw [h21_1]; rfl) | (rw [h21_2]; rfl) | (rw [h21_3]; rfl) | (rw [h21_4]; rfl)), (by first | rfl | (rw [h21_0]; rfl) | (rw [h21_1]; rfl) | (rw [h21_2]; rfl) | (rw [h21_3]; rfl) | (rw [h21_4]; rfl)), (by first | rfl | (rw [h21_0]; rfl) | (rw [h21_1]; rfl) | (rw [h21_2]; rfl) | (rw [h21_3]; rfl) | (rw [h21_4]; rfl)), (by first | rfl | (rw [h21_0]; rfl) | (rw [h21_1]; rfl) | (rw [h21_2]; rfl) | (rw [h21_3]; rfl) | (rw [h21_4]; rfl)), (by first | rfl | (rw [h21_0]; rfl) | (rw [h21_1]; rfl) | (rw [h21_2]; rfl) | (rw [h21_3]; rfl) | (rw [h21_4]; rfl)), (by first | rfl | (rw [h21_0]; rfl) | (rw [h21_1]; rfl) | (rw [h21_2]; rfl) | (rw [h21_3]; rfl) | (rw [h21_4]; rfl)), (by first | rfl | (rw [h21_0]; rfl) | (rw [h21_1]; rfl) | (rw [h21_2]; rfl) | (rw [h21_3]; rfl) | (rw [h21_4]; rfl)), (by first | rfl | (rw [h21]; rfl) | (simp only [h21, Bool.true_and, Bool.false_and, Bool.true_or, Bool.false_or, cond_true, cond_false]; done)), trivial⟩
                       ·
                        try simp only [go_sem, Nat.reduceEqDiff, reduceIte, Nat.reduceAdd, Nat.reduceMul, Nat.reduceSub, Nat.reduceLT, Nat.reduceLeDiff, h16, h21]
                        exact hK1 _ ⟨rfl, rfl, rfl, rfl, rfl, rfl, rfl, rfl, rfl, rfl, rfl, rfl, rfl, rfl, rfl, (by first | rfl | (rw [h21]; rfl) | (simp only [h21, Bool.true_and, Bool.false_and, Bool.true_or, Bool.false_or, cond_true, cond_false]; done)), trivial⟩
                      ·
                       refine xw_id ?_
                       try simp only [go_sem, Nat.reduceEqDiff, reduceIte, Nat.reduceAdd, Nat.reduceMul, Nat.reduceSub, Nat.reduceLT, Nat.reduceLeDiff, h16]
                       refine hKK _ _ (Wk.refl _ _ _) ?_; clear hKK KK
                       refine awp_nr [9,34,35,36,37,38,39,42,43,45,48,49,50,53,54] (fun _ => rfl) fun tz => ?_
                       refine awp_regW fun KK hKK => ?_
                       refine xw_id ?_
                       try simp only [List.append_eq, Array.toList_append, List.append_toArray, List.toList_toArray, List.cons_append, List.nil_append]
                       refine xw_stop 3 (by (try simp only [go_sem]); rfl) (by (try simp only [go_sem]); rfl) (by rfl) fun K1 hK1 => ?_
                       refine xw_id ?_
                       try simp only [go_sem, Nat.reduceEqDiff, reduceIte, Nat.reduceAdd, Nat.reduceMul, Nat.reduceSub, Nat.reduceLT, Nat.reduceLeDiff]
                       refine hK1 _ ?_; clear hK1 K1
                       obtain ⟨x150, hvh22, h0⟩ := bnd h0
                       refine xw_cut 3 [(9, (.ptr 0 0)), (35, (.ptr 2 0)), (37, (.imm (List.flatMap E_Frame x133.1) x133.1.length)), (38, (.ptr 3 0)), (39, (vi x133.2.2)), (42, (vi x134.2.2)), (43, (.imm (List.flatMap E_Frame x135.1) x135.1.length)), (45, (vi x135.2.2)), (48, (vi x136.2.2)), (49, (.ptr 4 0)), (50, (vi x137.2)), (53, (vb ((((((x111.2 == 2) && (x112.2 == 2)) && (x113.2 == 2)) && (x114.2 == 2)) && (x115.2 == 0)) && (x117.2.2 == 0)))), (54, (vb (((((x148 && (x125.2.1.Start == 2050)) && ((x125.2.1.Held.length : Int) == 1)) && (x127.2.2 == 2)) && (x129.2.2 == 2)) && (x131.2.2 == 8)))), (272, (vb x150))] (by (try simp only [go_sem]); rfl) (by (try simp only [go_sem]); rfl) (by rfl) (fun K1 hK1 => ?_) fun tz => ?_
                       ·
                        refine xw_id ?_
                        rcases Bool.eq_false_or_eq_true (x132.2.2 == 0) with h22 | h22
                        ·
                         have hvh22 := cT hvh22 h22
                         obtain ⟨x149, bx149, hvh22⟩ := bnd hvh22
                         try simp only [go_sem, Nat.reduceEqDiff, reduceIte, Nat.reduceAdd, Nat.reduceMul, Nat.reduceSub, Nat.reduceLT, Nat.reduceLeDiff, h22]
                         refine xcall_N (by first | (simp only [go_sem, fz, nilS, cond_true, cond_false, Nat.reduceEqDiff, reduceIte, Nat.reduceAdd, Nat.reduceMul, Nat.reduceSub, Nat.reduceLT, Nat.reduceLeDiff]; done) | (simp only [go_sem, fz, nilS, cond_true, cond_false, Nat.reduceEqDiff, reduceIte, Nat.reduceAdd, Nat.reduceMul, Nat.reduceSub, Nat.reduceLT, Nat.reduceLeDiff]; rfl)) (hotspotlaw18_numbers_p x132.1 [] bx149) ?_; try dsimp only
                         try refine xw_id ?_
                         try simp only [go_sem, Nat.reduceEqDiff, reduceIte, Nat.reduceAdd, Nat.reduceMul, Nat.reduceSub, Nat.reduceLT, Nat.reduceLeDiff, h22]
                         obtain rfl := someInj hvh22
                         exact hK1 _ ⟨rfl, rfl, rfl, rfl, rfl, rfl, rfl, rfl, rfl, rfl, rfl, rfl, rfl, rfl, (by first | rfl | (rw [h22]; rfl) | (simp only [h22, Bool.true_and, Bool.false_and, Bool.true_or, Bool.false_or, cond_true, cond_false]; done)), trivial⟩
                        ·
                         have hvh22 := cF hvh22 h22
                         try simp only [go_sem, Nat.reduceEqDiff, reduceIte, Nat.reduceAdd, Nat.reduceMul, Nat.reduceSub, Nat.reduceLT, Nat.reduceLeDiff, h22]
                         obtain rfl := someInj hvh22
                         exact hK1 _ ⟨rfl, rfl, rfl, rfl, rfl, rfl, rfl, rfl, rfl, rfl, rfl, rfl, rfl, rfl, (by first | rfl | (rw [h22]; rfl) | (simp only [h22, Bool.true_and, Bool.false_and, Bool.true_or, Bool.false_or, cond_true, cond_false]; done)), trivial⟩
                       ·
                        refine xw_id ?_
                        refine xw_stop 1 (by (try simp only [go_sem]); rfl) (by (try simp only [go_sem]); rfl) (by rfl) fun K1 hK1 => ?_
                        refine xw_id ?_
                        try simp only [go_sem, Nat.reduceEqDiff, reduceIte, Nat.reduceAdd, Nat.reduceMul, Nat.reduceSub, Nat.reduceLT, Nat.reduceLeDiff]
                        refine hK1 _ ?_; clear hK1 K1
                        obtain ⟨x152, hvh23, h0⟩ := bnd h0
                        refine xw_cut 4 [(37, (.imm (List.flatMap E_Frame x133.1) x133.1.length)), (38, (.ptr 3 0)), (39, (vi x133.2.2)), (42, (vi x134.2.2)), (43, (.imm (List.flatMap E_Frame x135.1) x135.1.length)), (45, (vi x135.2.2)), (48, (vi x136.2.2)), (49, (.ptr 4 0)), (50, (vi x137.2)), (53, (vb ((((((x111.2 == 2) && (x112.2 == 2)) && (x113.2 == 2)) && (x114.2 == 2)) && (x115.2 == 0)) && (x117.2.2 == 0)))), (54, (vb (((((x148 && (x125.2.1.Start == 2050)) && ((x125.2.1.Held.length : Int) == 1)) && (x127.2.2 == 2)) && (x129.2.2 == 2)) && (x131.2.2 == 8)))), (277, (vb x152))] (by (try simp only [go_sem]); rfl) (by (try simp only [go_sem]); rfl) (by rfl) (fun K1 hK1 => ?_) fun tz => ?_
                        ·
                         refine xw_id ?_
                         rcases Bool.eq_false_or_eq_true x150 with h23 | h23
                         ·
                          have hvh23 := cT hvh23 h23
                          obtain ⟨x151, bx151, hvh23⟩ := bnd hvh23
                          try simp only [go_sem, Nat.reduceEqDiff, reduceIte, Nat.reduceAdd, Nat.reduceMul, Nat.reduceSub, Nat.reduceLT, Nat.reduceLeDiff, h23]
                          refine xcall_p (hotspotref18_Same_p x132.2.1 x117.2.1 bx151) ?_; try dsimp only
                          try refine xw_id ?_
                          try simp only [go_sem, Nat.reduceEqDiff, reduceIte, Nat.reduceAdd, Nat.reduceMul, Nat.reduceSub, Nat.reduceLT, Nat.reduceLeDiff, h23]
                          obtain rfl := someInj hvh23
                          exact hK1 _ ⟨rfl, rfl, rfl, rfl, rfl, rfl, rfl, rfl, rfl, rfl, rfl, rfl, (by first | rfl | (rw [h23]; rfl) | (simp only [h23, Bool.true_and, Bool.false_and, Bool.true_or, Bool.false_or, cond_true, cond_false]; done)), trivial⟩
                         ·
                          have hvh23 := cF hvh23 h23
                          try simp only [go_sem, Nat.reduceEqDiff, reduceIte, Nat.reduceAdd, Nat.reduceMul, Nat.reduceSub, Nat.reduceLT, Nat.reduceLeDiff, h23]
                          obtain rfl := someInj hvh23
                          exact hK1 _ ⟨rfl, rfl, rfl, rfl, rfl, rfl, rfl, rfl, rfl, rfl, rfl, rfl, (by first | rfl | (rw [h23]; rfl) | (simp only [h23, Bool.true_and, Bool.false_and, Bool.true_or, Bool.false_or, cond_true, cond_false]; done)), trivial⟩
                        ·
                         refine xw_id ?_
                         refine xw_stop 1 (by (try simp only [go_sem]); rfl) (by (try simp only [go_sem]); rfl) (by rfl) fun K1 hK1 => ?_
                         refine xw_id ?_
                         try simp only [go_sem, Nat.reduceEqDiff, reduceIte, Nat.reduceAdd, Nat.reduceMul, Nat.reduceSub, Nat.reduceLT, Nat.reduceLeDiff]
                         refine hK1 _ ?_; clear hK1 K1
                         refine xw_cut 3 [(37, (.imm (List.flatMap E_Frame x133.1) x133.1.length)), (38, (.ptr 3 0)), (42, (vi x134.2.2)), (43, (.imm (List.flatMap E_Frame x135.1) x135.1.length)), (45, (vi x135.2.2)), (48, (vi x136.2.2)), (49, (.ptr 4 0)), (50, (vi x137.2)), (53, (vb ((((((x111.2 == 2) && (x112.2 == 2)) && (x113.2 == 2)) && (x114.2 == 2)) && (x115.2 == 0)) && (x117.2.2 == 0)))), (54, (vb (((((x148 && (x125.2.1.Start == 2050)) && ((x125.2.1.Held.length : Int) == 1)) && (x127.2.2 == 2)) && (x129.2.2 == 2)) && (x131.2.2 == 8)))), (281, (vb (x152 && (x133.2.2 == 0))))] (by (try simp only [go_sem]); rfl) (by (try simp only [go_sem]); rfl) (by rfl) (fun K1 hK1 => ?_) fun tz => ?_
                         ·
                          refine xw_id ?_
                          rcases Bool.eq_false_or_eq_true x152 with h24 | h24
                          ·
                           try simp only [go_sem, Nat.reduceEqDiff, reduceIte, Nat.reduceAdd, Nat.reduceMul, Nat.reduceSub, Nat.reduceLT, Nat.reduceLeDiff, h24]
                           exact hK1 _ ⟨rfl, rfl, rfl, rfl, rfl, rfl, rfl, rfl, rfl, rfl, rfl, (by first | rfl | (rw [h24]; rfl) | (simp only [h24, Bool.true_and, Bool.false_and, Bool.true_or, Bool.false_or, cond_true, cond_false]; done)), trivial⟩
                          ·
                           try simp only [go_sem, Nat.reduceEqDiff, reduceIte, Nat.reduceAdd, Nat.reduceMul, Nat.reduceSub, Nat.reduceLT, Nat.reduceLeDiff, h24]
                           exact hK1 _ ⟨rfl, rfl, rfl, rfl, rfl, rfl, rfl, rfl, rfl, rfl, rfl, (by first | rfl | (rw [h24]; rfl) | (simp only [h24, Bool.true_and, Bool.false_and, Bool.true_or, Bool.false_or, cond_true, cond_false]; done)), trivial⟩
                         ·
                          refine xw_id ?_
                          refine xw_stop 1 (by (try simp only [go_sem]); rfl) (by (try simp only [go_sem]); rfl) (by rfl) fun K1 hK1 => ?_
                          refine xw_id ?_
                          try simp only [go_sem, Nat.reduceEqDiff, reduceIte, Nat.reduceAdd, Nat.reduceMul, Nat.reduceSub, Nat.reduceLT, Nat.reduceLeDiff]
                          refine hK1 _ ?_; clear hK1 K1
                          obtain ⟨x154, hvh25, h0⟩ := bnd h0
                          refine xw_cut 3 [(38, (.ptr 3 0)), (42, (vi x134.2.2)), (43, (.imm (List.flatMap E_Frame x135.1) x135.1.length)), (45, (vi x135.2.2)), (48, (vi x136.2.2)), (49, (.ptr 4 0)), (50, (vi x137.2)), (53, (vb ((((((x111.2 == 2) && (x112.2 == 2)) && (x113.2 == 2)) && (x114.2 == 2)) && (x115.2 == 0)) && (x117.2.2 == 0)))), (54, (vb (((((x148 && (x125.2.1.Start == 2050)) && ((x125.2.1.Held.length : Int) == 1)) && (x127.2.2 == 2)) && (x129.2.2 == 2)) && (x131.2.2 == 8)))), (285, (vb x154))] (by (try simp only [go_sem]); rfl) (by (try simp only [go_sem]); rfl) (by rfl) (fun K1 hK1 => ?_) fun tz => ?_
                          ·
                           refine xw_id ?_
                           rcases Bool.eq_false_or_eq_true (x152 && (x133.2.2 == 0)) with h25 | h25
                           ·
                            have hvh25 := cT hvh25 h25
                            have h25_0 : (x152) = true := by simp only [Bool.and_eq_true] at h25; exact h25.1
                            have h25_1 : (x133.2.2 == 0) = true := by simp only [Bool.and_eq_true] at h25; exact h25.2
                            obtain ⟨x153, bx153, hvh25⟩ := bnd hvh25
                            try simp only [go_sem, Nat.reduceEqDiff, reduceIte, Nat.reduceAdd, Nat.reduceMul, Nat.reduceSub, Nat.reduceLT, Nat.reduceLeDiff, h25, h25_0, h25_1]
                            refine xcall_N (by first | (simp only [go_sem, fz, nilS, cond_true, cond_false, Nat.reduceEqDiff, reduceIte, Nat.reduceAdd, Nat.reduceMul, Nat.reduceSub, Nat.reduceLT, Nat.reduceLeDiff]; done) | (simp only [go_sem, fz, nilS, cond_true, cond_false, Nat.reduceEqDiff, reduceIte, Nat.reduceAdd, Nat.reduceMul, Nat.reduceSub, Nat.reduceLT, Nat.reduceLeDiff]; rfl)) (hotspotlaw18_numbers_p x133.1 [] bx153) ?_; try dsimp only
                            try refine xw_id ?_
                            try simp only [go_sem, Nat.reduceEqDiff, reduceIte, Nat.reduceAdd, Nat.reduceMul, Nat.reduceSub, Nat.reduceLT, Nat.reduceLeDiff, h25, h25_0, h25_1]
                            obtain rfl := someInj hvh25
                            exact hK1 _ ⟨rfl, (by first | rfl | (rw [h25_0]; rfl) | (rw [h25_1]; rfl)), (by first | rfl | (rw [h25_0]; rfl) | (rw [h25_1]; rfl)), (by first | rfl | (rw [h25_0]; rfl) | (rw [h25_1]; rfl)), (by first | rfl | (rw [h25_0]; rfl) | (rw [h25_1]; rfl)), (by first | rfl | (rw [h25_0]; rfl) | (rw [h25_1]; rfl)), (by first | rfl | (rw [h25_0]; rfl) | (rw [h25_1]; rfl)), (by first | rfl | (rw [h25_0]; rfl) | (rw [h25_1]; rfl)), (by first | rfl | (rw [h25_0]; rfl) | (rw [h25_1]; rfl)), (by first | rfl | (rw [h25_0]; rfl) | (rw [h25_1]; rfl)), (by first | rfl | (rw [h25]; rfl) | (simp only [h25, Bool.true_and, Bool.false_and, Bool.true_or, Bool.false_or, cond_true, cond_false]; done)), trivial⟩
                           ·
                            have hvh25 := cF hvh25 h25
                            try simp only [go_sem, Nat.reduceEqDiff, reduceIte, Nat.reduceAdd, Nat.reduceMul, Nat.reduceSub, Nat.reduceLT, Nat.reduceLeDiff, h25]
                            obtain rfl := someInj hvh25
                            exact hK1 _ ⟨rfl, rfl, rfl, rfl, rfl, rfl, rfl, rfl, rfl, rfl, (by first | rfl | (rw [h25]; rfl) | (simp only [h25, Bool.true_and, Bool.false_and, Bool.true_or, Bool.false_or, cond_true, cond_false]; done)), trivial⟩
                          ·
                           refine xw_id ?_
                           refine xw_stop 1 (by (try simp only [go_sem]); rfl) (by (try simp only [go_sem]); rfl) (by rfl) fun K1 hK1 => ?_
                           refine xw_id ?_
                           try simp only [go_sem, Nat.reduceEqDiff, reduceIte, Nat.reduceAdd, Nat.reduceMul, Nat.reduceSub, Nat.reduceLT, Nat.reduceLeDiff]
                           refine hK1 _ ?_; clear hK1 K1
                           refine xw_cut 4 [(38, (.ptr 3 0)), (42, (vi x134.2.2)), (43, (.imm (List.flatMap E_Frame x135.1) x135.1.length)), (45, (vi x135.2.2)), (48, (vi x136.2.2)), (49, (.ptr 4 0)), (50, (vi x137.2)), (53, (vb ((((((x111.2 == 2) && (x112.2 == 2)) && (x113.2 == 2)) && (x114.2 == 2)) && (x115.2 == 0)) && (x117.2.2 == 0)))), (54, (vb (((((x148 && (x125.2.1.Start == 2050)) && ((x125.2.1.Held.length : Int) == 1)) && (x127.2.2 == 2)) && (x129.2.2 == 2)) && (x131.2.2 == 8)))), (290, (vb (x154 && (x133.2.1.Start == 11))))] (by (try simp only [go_sem]); rfl) (by (try simp only [go_sem]); rfl) (by rfl) (fun K1 hK1 => ?_) fun tz => ?_
                           ·
                            refine xw_id ?_
                            rcases Bool.eq_false_or_eq_true x154 with h26 | h26
                            ·
                             try simp only [go_sem, Nat.reduceEqDiff, reduceIte, Nat.reduceAdd, Nat.reduceMul, Nat.reduceSub, Nat.reduceLT, Nat.reduceLeDiff, h26]
                             exact hK1 _ ⟨rfl, rfl, rfl, rfl, rfl, rfl, rfl, rfl, rfl, rfl, (by first | rfl | (rw [h26]; rfl) | (simp only [h26, Bool.true_and, Bool.false_and, Bool.true_or, Bool.false_or, cond_true, cond_false]; done)), trivial⟩
                            ·
                             try simp only [go_sem, Nat.reduceEqDiff, reduceIte, Nat.reduceAdd, Nat.reduceMul, Nat.reduceSub, Nat.reduceLT, Nat.reduceLeDiff, h26]
                             exact hK1 _ ⟨rfl, rfl, rfl, rfl, rfl, rfl, rfl, rfl, rfl, rfl, (by first | rfl | (rw [h26]; rfl) | (simp only [h26, Bool.true_and, Bool.false_and, Bool.true_or, Bool.false_or, cond_true, cond_false]; done)), trivial⟩
                           ·
                            refine xw_id ?_
                            refine xw_stop 1 (by (try simp only [go_sem]); rfl) (by (try simp only [go_sem]); rfl) (by rfl) fun K1 hK1 => ?_
                            refine xw_id ?_
                            try simp only [go_sem, Nat.reduceEqDiff, reduceIte, Nat.reduceAdd, Nat.reduceMul, Nat.reduceSub, Nat.reduceLT, Nat.reduceLeDiff]
                            refine hK1 _ ?_; clear hK1 K1
                            refine xw_cut 5 [(42, (vi x134.2.2)), (43, (.imm (List.flatMap E_Frame x135.1) x135.1.length)), (45, (vi x135.2.2)), (48, (vi x136.2.2)), (49, (.ptr 4 0)), (50, (vi x137.2)), (53, (vb ((((((x111.2 == 2) && (x112.2 == 2)) && (x113.2 == 2)) && (x114.2 == 2)) && (x115.2 == 0)) && (x117.2.2 == 0)))), (54, (vb (((((x148 && (x125.2.1.Start == 2050)) && ((x125.2.1.Held.length : Int) == 1)) && (x127.2.2 == 2)) && (x129.2.2 == 2)) && (x131.2.2 == 8)))), (296, (vb ((x154 && (x133.2.1.Start == 11)) && ((x133.2.1.Held.length : Int) == 1))))] (by (try simp only [go_sem]); rfl) (by (try simp only [go_sem]); rfl) (by rfl) (fun K1 hK1 => ?_) fun tz => ?_
                            ·
                             refine xw_id ?_
                             rcases Bool.eq_false_or_eq_true (x154 && (x133.2.1.Start == 11)) with h27 | h27
                             ·
                              have h27_0 : (x154) = true := by simp only [Bool.and_eq_true] at h27; exact h27.1
                              have h27_1 : (x133.2.1.Start == 11) = true := by simp only [Bool.and_eq_true] at h27; exact h27.2
                              try simp only [go_sem, Nat.reduceEqDiff, reduceIte, Nat.reduceAdd, Nat.reduceMul, Nat.reduceSub, Nat.reduceLT, Nat.reduceLeDiff, Int.reduceToNat, Int.reduceBEq, Int.reduceBNe, Int.reduceLT, Int.reduceLE, Int.reduceAdd, Int.reduceSub, Int.reduceMul, Int.reduceNeg, Int.reduceEq, Int.reduceNe, h27, h27_0, h27_1]
                              exact hK1 _ ⟨rfl, (by first | rfl | (rw [h27_0]; rfl) | (rw [h27_1]; rfl)), (by first | rfl | (rw [h27_0]; rfl) | (rw [h27_1]; rfl)), (by first | rfl | (rw [h27_0]; rfl) | (rw [h27_1]; rfl)), (by first | rfl | (rw [h27_0]; rfl) | (rw [h27_1]; rfl)), (by first | rfl | (rw [h27_0]; rfl) | (rw [h27_1]; rfl)), (by first | rfl | (rw [h27_0]; rfl) | (rw [h27_1]; rfl)), (by first | rfl | (rw [h27_0]; rfl) | (rw [h27_1]; rfl)), (by first | rfl | (rw [h27_0]; rfl) | (rw [h27_1]; rfl)), (by first | rfl | (rw [h27]; rfl) | (simp only [h27, Bool.true_and, Bool.false_and, Bool.true_or, Bool.false_or, cond_true, cond_false]; done)), trivial⟩
                             ·
                              try simp only [go_sem, Nat.reduceEqDiff, reduceIte, Nat.reduceAdd, Nat.reduceMul, Nat.reduceSub, Nat.reduceLT, Nat.reduceLeDiff, h27]
                              exact hK1 _ ⟨rfl, rfl, rfl, rfl, rfl, rfl, rfl, rfl, rfl, (by first | rfl | (rw [h27]; rfl) | (simp only [h27, Bool.true_and, Bool.false_and, Bool.true_or, Bool.false_or, cond_true, cond_false]; done)), trivial⟩
                            ·
                             refine xw_id ?_
                             refine xw_stop 1 (by (try simp only [go_sem]); rfl) (by (try simp only [go_sem]); rfl) (by rfl) fun K1 hK1 => ?_
                             refine xw_id ?_
                             try simp only [go_sem, Nat.reduceEqDiff, reduceIte, Nat.reduceAdd, Nat.reduceMul, Nat.reduceSub, Nat.reduceLT, Nat.reduceLeDiff]
                             refine hK1 _ ?_; clear hK1 K1
                             refine xw_cut 3 [(43, (.imm (List.flatMap E_Frame x135.1) x135.1.length)), (45, (vi x135.2.2)), (48, (vi x136.2.2)), (49, (.ptr 4 0)), (50, (vi x137.2)), (53, (vb ((((((x111.2 == 2) && (x112.2 == 2)) && (x113.2 == 2)) && (x114.2 == 2)) && (x115.2 == 0)) && (x117.2.2 == 0)))), (54, (vb (((((x148 && (x125.2.1.Start == 2050)) && ((x125.2.1.Held.length : Int) == 1)) && (x127.2.2 == 2)) && (x129.2.2 == 2)) && (x131.2.2 == 8)))), (300, (vb (((x154 && (x133.2.1.Start == 11)) && ((x133.2.1.Held.length : Int) == 1)) && (x134.2.2 == 2))))] (by (try simp only [go_sem]); rfl) (by (try simp only [go_sem]); rfl) (by rfl) (fun K1 hK1 => ?_) fun tz => ?_
                             ·
                              refine xw_id ?_
                              rcases Bool.eq_false_or_eq_true ((x154 && (x133.2.1.Start == 11)) && ((x133.2.1.Held.length : Int) == 1)) with h28 | h28
                              ·
                               have h28_0 : (x154) = true := by simp only [Bool.and_eq_true] at h28; exact h28.1.1
                               have h28_1 : (x133.2.1.Start == 11) = true := by simp only [Bool.and_eq_true] at h28; exact h28.1.2
                               have h28_2 : ((x133.2.1.Held.length : Int) == 1) = true := by simp only [Bool.and_eq_true] at h28; exact h28.2
                               try simp only [go_sem, Nat.reduceEqDiff, reduceIte, Nat.reduceAdd, Nat.reduceMul, Nat.reduceSub, Nat.reduceLT, Nat.reduceLeDiff, h28, h28_0, h28_1, h28_2]
                               exact hK1 _ ⟨rfl, (by first | rfl | (rw [h28_0]; rfl) | (rw [h28_1]; rfl) | (rw [h28_2]; rfl)), (by first | rfl | (rw [h28_0]; rfl) | (rw [h28_1]; rfl) | (rw [h28_2]; rfl)), (by first | rfl | (rw [h28_0]; rfl) | (rw [h28_1]; rfl) | (rw [h28_2]; rfl)), (by first | rfl | (rw [h28_0]; rfl) | (rw [h28_1]; rfl) | (rw [h28_2]; rfl)), (by first | rfl | (rw [h28_0]; rfl) | (rw [h28_1]; rfl) | (rw [h28_2]; rfl)), (by first | rfl | (rw [h28_0]; rfl) | (rw [h28_1]; rfl) | (rw [h28_2]; rfl)), (by first | rfl | (rw [h28_0]; rfl) | (rw [h28_1]; rfl) | (rw [h28_2]; rfl)), (by first | rfl | (rw [h28]; rfl) | (simp only [h28, Bool.true_and, Bool.false_and, Bool.true_or, Bool.false_or, cond_true, cond_false]; done)), trivial⟩
                              ·
                               try simp only [go_sem, Nat.reduceEqDiff, reduceIte, Nat.reduceAdd, Nat.reduceMul, Nat.reduceSub, Nat.reduceLT, Nat.reduceLeDiff, h28]
                               exact hK1 _ ⟨rfl, rfl, rfl, rfl, rfl, rfl, rfl, rfl, (by first | rfl | (rw [h28]; rfl) | (simp only [h28, Bool.true_and, Bool.false_and, Bool.true_or, Bool.false_or, cond_true, cond_false]; done)), trivial⟩
                             ·
                              refine xw_id ?_
                              try simp only [go_sem, Nat.reduceEqDiff, reduceIte, Nat.reduceAdd, Nat.reduceMul, Nat.reduceSub, Nat.reduceLT, Nat.reduceLeDiff]
                              refine hKK _ (hotspotlaw18_ReorderNames_S18 x137 x135 x136 x111 x112 x113 x114 x115 x117 x148 x125 x127 x129 x131 x154 x133 x134) (Wk.canonD [] [] [some 4] rfl trivial rfl (tmOU 0 tmO0 rfl List.not_mem_nil (by simp only [upd_get, Nat.reduceEqDiff, reduceIte, Nat.reduceAdd, Nat.reduceMul, Nat.reduceSub, Nat.reduceLT, Nat.reduceLeDiff, if_true, if_false] <;> rfl) (TmL.clean (e_Window_clean _))) (tmAllU 55 (tmAllU 54 (tmAllU 53 (tmAllU 50 (tmAllU 49 (tmAllU 48 (tmAllU 45 (tmAllU 43 tmAll0 (Tm.clean (Clean.imm (c_Frame _)))) (Tm.v _)) (Tm.v _)) (Tm.ptr rfl)) (Tm.v _)) (Tm.v _)) (Tm.v _)) (Tm.v _))) ?_; clear hKK KK
                              unfold hotspotlaw18_ReorderNames_S18
                              refine awp_nr [43,45,48,49,50,53,54,55] (fun _ => rfl) fun tz => ?_
                              refine awp_regW fun KK hKK => ?_
                              refine xw_id ?_
                              try simp only [List.append_eq, Array.toList_append, List.append_toArray, List.toList_toArray, List.cons_append, List.nil_append]
                              obtain ⟨x155, bx155, h0⟩ := bnd h0
                              try simp only [go_sem, Nat.reduceEqDiff, reduceIte, Nat.reduceAdd, Nat.reduceMul, Nat.reduceSub, Nat.reduceLT, Nat.reduceLeDiff]
                              refine xcall_p (hotspotlaw18_alive_p  bx155) ?_; try dsimp only
                              try refine xw_id ?_
                              refine xw_stop 2 (by (try simp only [go_sem]); rfl) (by (try simp only [go_sem]); rfl) (by rfl) fun K1 hK1 => ?_
                              refine xw_id ?_
                              try simp only [go_sem, Nat.reduceEqDiff, reduceIte, Nat.reduceAdd, Nat.reduceMul, Nat.reduceSub, Nat.reduceLT, Nat.reduceLeDiff]
                              refine hK1 _ ?_; clear hK1 K1
                              refine xw_cut 2 [(43, (.imm (List.flatMap E_Frame x135.1) x135.1.length)), (45, (vi x135.2.2)), (48, (vi x136.2.2)), (49, (.ptr 0 0)), (50, (vi x137.2)), (54, (vb (((((x148 && (x125.2.1.Start == 2050)) && ((x125.2.1.Held.length : Int) == 1)) && (x127.2.2 == 2)) && (x129.2.2 == 2)) && (x131.2.2 == 8)))), (55, (vb (((x154 && (x133.2.1.Start == 11)) && ((x133.2.1.Held.length : Int) == 1)) && (x134.2.2 == 2)))), (306, (vb (x155 && ((((((x111.2 == 2) && (x112.2 == 2)) && (x113.2 == 2)) && (x114.2 == 2)) && (x115.2 == 0)) && (x117.2.2 == 0)))))] (by (try simp only [go_sem]); rfl) (by (try simp only [go_sem]); rfl) (by rfl) (fun K1 hK1 => ?_) fun tz => ?_
                              ·
                               refine xw_id ?_
                               rcases Bool.eq_false_or_eq_true x155 with h29 | h29
                               ·
                                try simp only [go_sem, Nat.reduceEqDiff, reduceIte, Nat.reduceAdd, Nat.reduceMul, Nat.reduceSub, Nat.reduceLT, Nat.reduceLeDiff, h29]
                                exact hK1 _ ⟨rfl, rfl, rfl, rfl, rfl, rfl, rfl, rfl, (by first | rfl | (rw [h29]; rfl) | (simp only [h29, Bool.true_and, Bool.false_and, Bool.true_or, Bool.false_or, cond_true, cond_false]; done)), trivial⟩
                               ·
                                try simp only [go_sem, Nat.reduceEqDiff, reduceIte, Nat.reduceAdd, Nat.reduceMul, Nat.reduceSub, Nat.reduceLT, Nat.reduceLeDiff, h29]
                                exact hK1 _ ⟨rfl, rfl, rfl, rfl, rfl, rfl, rfl, rfl, (by first | rfl | (rw [h29]; rfl) | (simp only [h29, Bool.true_and, Bool.false_and, Bool.true_or, Bool.false_or, cond_true, cond_false]; done)), trivial⟩
                              ·
                               refine xw_id ?_
                               refine xw_stop 1 (by (try simp only [go_sem]); rfl) (by (try simp only [go_sem]); rfl) (by rfl) fun K1 hK1 => ?_
                               refine xw_id ?_
                               try simp only [go_sem, Nat.reduceEqDiff, reduceIte, Nat.reduceAdd, Nat.reduceMul, Nat.reduceSub, Nat.reduceLT, Nat.reduceLeDiff]
                               refine hK1 _ ?_; clear hK1 K1
                               refine xw_cut 2 [(43, (.imm (List.flatMap E_Frame x135.1) x135.1.length)), (45, (vi x135.2.2)), (48, (vi x136.2.2)), (49, (.ptr 0 0)), (50, (vi x137.2)), (55, (vb (((x154 && (x133.2.1.Start == 11)) && ((x133.2.1.Held.length : Int) == 1)) && (x134.2.2 == 2)))), (309, (vb ((x155 && ((((((x111.2 == 2) && (x112.2 == 2)) && (x113.2 == 2)) && (x114.2 == 2)) && (x115.2 == 0)) && (x117.2.2 == 0))) && (((((x148 && (x125.2.1.Start == 2050)) && ((x125.2.1.Held.length : Int) == 1)) && (x127.2.2 == 2)) && (x129.2.2 == 2)) && (x131.2.2 == 8)))))] (by (try simp only [go_sem]); rfl) (by (try simp only [go_sem]); rfl) (by rfl) (fun K1 hK1 => ?_) fun tz => ?_
                               ·
                                refine xw_id ?_
                                rcases Bool.eq_false_or_eq_true (x155 && ((((((x111.2 == 2) && (x112.2 == 2)) && (x113.2 == 2)) && (x114.2 == 2)) && (x115.2 == 0)) && (x117.2.2 == 0))) with h30 | h30
                                ·
                                 have h30_0 : (x155) = true := by simp only [Bool.and_eq_true] at h30; exact h30.1
                                 have h30_1 : (x111.2 == 2) = true := by simp only [Bool.and_eq_true] at h30; exact h30.2.1.1.1.1.1
                                 have h30_2 : (x112.2 == 2) = true := by simp only [Bool.and_eq_true] at h30; exact h30.2.1.1.1.1.2
                                 have h30_3 : (x113.2 == 2) = true := by simp only [Bool.and_eq_true] at h30; exact h30.2.1.1.1.2
                                 have h30_4 : (x114.2 == 2) = true := by simp only [Bool.and_eq_true] at h30; exact h30.2.1.1.2
                                 have h30_5 : (x115.2 == 0) = true := by simp only [Bool.and_eq_true] at h30; exact h30.2.1.2
                                 have h30_6 : (x117.2.2 == 0) = true := by simp only [Bool.and_eq_true] at h30; exact h30.2.2
                                 try simp only [go_sem, Nat.reduceEqDiff, reduceIte, Nat.reduceAdd, Nat.reduceMul, Nat.reduceSub, Nat.reduceLT, Nat.reduceLeDiff, h30, h30_0, h30_1, h30_2, h30_3, h30_4, h30_5, h30_6]
                                 exact hK1 _ ⟨rfl, (by first | rfl | (rw [h30_0]; rfl) | (rw [h30_1]; rfl) | (rw [h30_2]; rfl) | (rw [h30_3]; rfl) | (rw [h30_4]; rfl) | (rw [h30_5]; rfl) | (rw [h30_6]; rfl)), (by first | rfl | (rw [h30_0]; rfl) | (rw [h30_1]; rfl) | (rw [h30_2]; rfl) | (rw [h30_3]; rfl) | (rw [h30_4]; rfl) | (rw [h30_5]; rfl) | (rw [h30_6]; rfl)), (by first | rfl | (rw [h30_0]; rfl) | (rw [h30_1]; rfl) | (rw [h30_2]; rfl) | (rw [h30_3]; rfl) | (rw [h30_4]; rfl) | (rw [h30_5]; rfl) | (rw [h30_6]; rfl)), (by first | rfl | (rw [h30_0]; rfl) | (rw [h30_1]; rfl) | (rw [h30_2]; rfl) | (rw [h30_3]; rfl) | (rw [h30_4]; rfl) | (rw [h30_5]; rfl) | (rw [h30_6]; rfl)), (by first | rfl | (rw [h30_0]; rfl) | (rw [h30_1]; rfl) | (rw [h30_2]; rfl) | (rw [h30_3]; rfl) | (rw [h30_4]; rfl) | (rw [h30_5]; rfl) | (rw [h30_6]; rfl)), (by first | rfl | (rw [h30_0]; rfl) | (rw [h30_1]; rfl) | (rw [h30_2]; rfl) | (rw [h30_3]; rfl) | (rw [h30_4]; rfl) | (rw [h30_5]; rfl) | (rw [h30_6]; rfl)), (by first | rfl | (rw [h30]; rfl) | (simp only [h30, Bool.true_and, Bool.false_and, Bool.true_or, Bool.false_or, cond_true, cond_false]; done)), trivial⟩
                                ·
                                 try simp only [go_sem, Nat.reduceEqDiff, reduceIte, Nat.reduceAdd, Nat.reduceMul, Nat.reduceSub, Nat.reduceLT, Nat.reduceLeDiff, h30]
                                 exact hK1 _ ⟨rfl, rfl, rfl, rfl, rfl, rfl, rfl, (by first | rfl | (rw [h30]; rfl) | (simp only [h30, Bool.true_and, Bool.false_and, Bool.true_or, Bool.false_or, cond_true, cond_false]; done)), trivial⟩
                               ·
                                refine xw_id ?_
                                refine xw_stop 1 (by (try simp only [go_sem]); rfl) (by (try simp only [go_sem]); rfl) (by rfl) fun K1 hK1 => ?_
                                refine xw_id ?_
                                try simp only [go_sem, Nat.reduceEqDiff, reduceIte, Nat.reduceAdd, Nat.reduceMul, Nat.reduceSub, Nat.reduceLT, Nat.reduceLeDiff]
                                refine hK1 _ ?_; clear hK1 K1
                                refine xw_cut 2 [(43, (.imm (List.flatMap E_Frame x135.1) x135.1.length)), (45, (vi x135.2.2)), (48, (vi x136.2.2)), (49, (.ptr 0 0)), (50, (vi x137.2)), (312, (vb (((x155 && ((((((x111.2 == 2) && (x112.2 == 2)) && (x113.2 == 2)) && (x114.2 == 2)) && (x115.2 == 0)) && (x117.2.2 == 0))) && (((((x148 && (x125.2.1.Start == 2050)) && ((x125.2.1.Held.length : Int) == 1)) && (x127.2.2 == 2)) && (x129.2.2 == 2)) && (x131.2.2 == 8))) && (((x154 && (x133.2.1.Start == 11)) && ((x133.2.1.Held.length : Int) == 1)) && (x134.2.2 == 2)))))] (by (try simp only [go_sem]); rfl) (by (try simp only [go_sem]); rfl) (by rfl) (fun K1 hK1 => ?_) fun tz => ?_
                                ·
                                 refine xw_id ?_
                                 rcases Bool.eq_false_or_eq_true ((x155 && ((((((x111.2 == 2) && (x112.2 == 2)) && (x113.2 == 2)) && (x114.2 == 2)) && (x115.2 == 0)) && (x117.2.2 == 0))) && (((((x148 && (x125.2.1.Start == 2050)) && ((x125.2.1.Held.length : Int) == 1)) && (x127.2.2 == 2)) && (x129.2.2 == 2)) && (x131.2.2 == 8))) with h31 | h31
                                 ·
                                  have h31_0 : (x155) = true := by simp only [Bool.and_eq_true] at h31; exact h31.1.1
                                  have h31_1 : (x111.2 == 2) = true := by simp only [Bool.and_eq_true] at h31; exact h31.1.2.1.1.1.1.1
                                  have h31_2 : (x112.2 == 2) = true := by simp only [Bool.and_eq_true] at h31; exact h31.1.2.1.1.1.1.2
                                  have h31_3 : (x113.2 == 2) = true := by simp only [Bool.and_eq_true] at h31; exact h31.1.2.1.1.1.2
                                  have h31_4 : (x114.2 == 2) = true := by simp only [Bool.and_eq_true] at h31; exact h31.1.2.1.1.2
                                  have h31_5 : (x115.2 == 0) = true := by simp only [Bool.and_eq_true] at h31; exact h31.1.2.1.2
                                  have h31_6 : (x117.2.2 == 0) = true := by simp only [Bool.and_eq_true] at h31; exact h31.1.2.2
                                  have h31_7 : (x148) = true := by simp only [Bool.and_eq_true] at h31; exact h31.2.1.1.1.1.1
                                  have h31_8 : (x125.2.1.Start == 2050) = true := by simp only [Bool.and_eq_true] at h31; exact h31.2.1.1.1.1.2
                                  have h31_9 : ((x125.2.1.Held.length : Int) == 1) = true := by simp only [Bool.and_eq_true] at h31; exact h31.2.1.1.1.2
                                  have h31_10 : (x127.2.2 == 2) = true := by simp only [Bool.and_eq_true] at h31; exact h31.2.1.1.2
                                  have h31_11 : (x129.2.2 == 2) = true := by simp only [Bool.and_eq_true] at h31; exact h31.2.1.2
                                  have h31_12 : (x131.2.2 == 8) = true := by simp only [Bool.and_eq_true] at h31; exact h31.2.2
                                  try simp only [go_sem, Nat.reduceEqDiff, reduceIte, Nat.reduceAdd, Nat.reduceMul, Nat.reduceSub, Nat.reduceLT, Nat.reduceLeDiff, h31, h31_0, h31_1, h31_2, h31_3, h31_4, h31_5, h31_6, h31_7, h31_8, h31_9, h31_10, h31_11, h31_12]
                                  exact hK1 _ ⟨rfl, (by first | rfl | (rw [h31_0]; rfl) | (rw [h31_1]; rfl) | (rw [h31_2]; rfl) | (rw [h31_3]; rfl) | (rw [h31_4]; rfl) | (rw [h31_5]; rfl) | (rw [h31_6]; rfl) | (rw [h31_7]; rfl) | (rw [h31_8]; rfl) | (rw [h31_9]; rfl) | (rw [h31_10]; rfl) | (rw [h31_11]; rfl) | (rw [h31_12]; rfl)), (by first | rfl | (rw [h31_0]; rfl) | (rw [h31_1]; rfl) | (rw [h31_2]; rfl) | (rw [h31_3]; rfl) | (rw [h31_4]; rfl) | (rw [h31_5]; rfl) | (rw [h31_6]; rfl) | (rw [h31_7]; rfl) | (rw [h31_8]; rfl) | (rw [h31_9]; rfl) | (rw [h31_10]; rfl) | (rw [h31_11]; rfl) | (rw [h31_12]; rfl)), (by first | rfl | (rw [h31_0]; rfl) | (rw [h31_1]; rfl) | (rw [h31_2]; rfl) | (rw [h31_3]; rfl) | (rw [h31_4]; rfl) | (rw [h31_5]; rfl) | (rw [h31_6]; rfl) | (rw [h31_7]; rfl) | (rw [h31_8]; rfl) | (rw [h31_9]; rfl) | (rw [h31_10]; rfl) | (rw [h31_11]; rfl) | (rw [h31_12]; rfl)), (by first | rfl | (rw [h31_0]; rfl) | (rw [h31_1]; rfl) | (rw [h31_2]; rfl) | (rw [h31_3]; rfl) | (rw [h31_4]; rfl) | (rw [h31_5]; rfl) | (rw [h31_6]; rfl) | (rw [h31_7]; rfl) | (rw [h31_8]; rfl) | (rw [h31_9]; rfl) | (rw [h31_10]; rfl) | (rw [h31_11]; rfl) | (rw [h31_12]; rfl)), (by first | rfl | (rw [h31_0]; rfl) | (rw [h31_1]; rfl) | (rw [h31_2]; rfl) | (rw [h31_3]; rfl) | (rw [h31_4]; rfl) | (rw [h31_5]; rfl) | (rw [h31_6]; rfl) | (rw [h31_7]; rfl) | (rw [h31_8]; rfl) | (rw [h31_9]; rfl) | (rw [h31_10]; rfl) | (rw [h31_11]; rfl) | (rw [h31_12]; rfl)), (by first | rfl | (rw [h31]; rfl) | (simp only [h31, Bool.true_and, Bool.false_and, Bool.true_or, Bool.false_or, cond_true, cond_false]; done)), trivial⟩
                                 ·
                                  try simp only [go_sem, Nat.reduceEqDiff, reduceIte, Nat.reduceAdd, Nat.reduceMul, Nat.reduceSub, Nat.reduceLT, Nat.reduceLeDiff, h31]
                                  exact hK1 _ ⟨rfl, rfl, rfl, rfl, rfl, rfl, (by first | rfl | (rw [h31]; rfl) | (simp only [h31, Bool.true_and, Bool.false_and, Bool.true_or, Bool.false_or, cond_true, cond_false]; done)), trivial⟩
                                ·
                                 refine xw_id ?_
                                 refine xw_stop 1 (by (try simp only [go_sem]); rfl) (by (try simp only [go_sem]); rfl) (by rfl) fun K1 hK1 => ?_
                                 refine xw_id ?_
                                 try simp only [go_sem, Nat.reduceEqDiff, reduceIte, Nat.reduceAdd, Nat.reduceMul, Nat.reduceSub, Nat.reduceLT, Nat.reduceLeDiff]
                                 refine hK1 _ ?_; clear hK1 K1
                                 refine xw_cut 3 [(43, (.imm (List.flatMap E_Frame x135.1) x135.1.length)), (48, (vi x136.2.2)), (49, (.ptr 0 0)), (50, (vi x137.2)), (316, (vb ((((x155 && ((((((x111.2 == 2) && (x112.2 == 2)) && (x113.2 == 2)) && (x114.2 == 2)) && (x115.2 == 0)) && (x117.2.2 == 0))) && (((((x148 && (x125.2.1.Start == 2050)) && ((x125.2.1.Held.length : Int) == 1)) && (x127.2.2 == 2)) && (x129.2.2 == 2)) && (x131.2.2 == 8))) && (((x154 && (x133.2.1.Start == 11)) && ((x133.2.1.Held.length : Int) == 1)) && (x134.2.2 == 2))) && (x135.2.2 == 0))))] (by (try simp only [go_sem]); rfl) (by (try simp only [go_sem]); rfl) (by rfl) (fun K1 hK1 => ?_) fun tz => ?_
                                 ·
                                  refine xw_id ?_
                                  rcases Bool.eq_false_or_eq_true (((x155 && ((((((x111.2 == 2) && (x112.2 == 2)) && (x113.2 == 2)) && (x114.2 == 2)) && (x115.2 == 0)) && (x117.2.2 == 0))) && (((((x148 && (x125.2.1.Start == 2050)) && ((x125.2.1.Held.length : Int) == 1)) && (x127.2.2 == 2)) && (x129.2.2 == 2)) && (x131.2.2 == 8))) && (((x154 && (x133.2.1.Start == 11)) && ((x133.2.1.Held.length : Int) == 1)) && (x134.2.2 == 2))) with h32 | h32
                                  ·
                                   have h32_0 : (x155) = true := by simp only [Bool.and_eq_true] at h32; exact h32.1.1.1
                                   have h32_1 : (x111.2 == 2) = true := by simp only [Bool.and_eq_true] at h32; exact h32.1.1.2.1.1.1.1.1
                                   have h32_2 : (x112.2 == 2) = true := by simp only [Bool.and_eq_true] at h32; exact h32.1.1.2.1.1.1.1.2
                                   have h32_3 : (x113.2 == 2) = true := by simp only [Bool.and_eq_true] at h32; exact h32.1.1.2.1.1.1.2
                                   have h32_4 : (x114.2 == 2) = true := by simp only [Bool.and_eq_true] at h32; exact h32.1.1.2.1.1.2
                                   have h32_5 : (x115.2 == 0) = true := by simp only [Bool.and_eq_true] at h32; exact h32.1.1.2.1.2
                                   have h32_6 : (x117.2.2 == 0) = true := by simp only [Bool.and_eq_true] at h32; exact h32.1.1.2.2
                                   have h32_7 : (x148) = true := by simp only [Bool.and_eq_true] at h32; exact h32.1.2.1.1.1.1.1
                                   have h32_8 : (x125.2.1.Start == 2050) = true := by simp only [Bool.and_eq_true] at h32; exact h32.1.2.1.1.1.1.2
                                   have h32_9 : ((x125.2.1.Held.length : Int) == 1) = true := by simp only [Bool.and_eq_true] at h32; exact h32.1.2.1.1.1.2
                                   have h32_10 : (x127.2.2 == 2) = true := by simp only [Bool.and_eq_true] at h32; exact h32.1.2.1.1.2
                                   have h32_11 : (x129.2.2 == 2) = true := by simp only [Bool.and_eq_true] at h32; exact h32.1.2.1.2
                                   have h32_12 : (x131.2.2 == 8) = true := by simp only [Bool.and_eq_true] at h32; exact h32.1.2.2
                                   have h32_13 : (x154) = true := by simp only [Bool.and_eq_true] at h32; exact h32.2.1.1.1
                                   have h32_14 : (x133.2.1.Start == 11) = true := by simp only [Bool.and_eq_true] at h32; exact h32.2.1.1.2
                                   have h32_15 : ((x133.2.1.Held.length : Int) == 1) = true := by simp only [Bool.and_eq_true] at h32; exact h32.2.1.2
                                   have h32_16 : (x134.2.2 == 2) = true := by simp only [Bool.and_eq_true] at h32; exact h32.2.2
                                   try simp only [go_sem, Nat.reduceEqDiff, reduceIte, Nat.reduceAdd, Nat.reduceMul, Nat.reduceSub, Nat.reduceLT, Nat.reduceLeDiff, h32, h32_0, h32_1, h32_2, h32_3, h32_4, h32_5, h32_6, h32_7, h32_8, h32_9, h32_10, h32_11, h32_12, h32_13, h32_14, h32_15, h32_16]
                                   exact hK1 _ ⟨rfl, (by first | rfl | (rw [h32_0]; rfl) | (rw [h32_1]; rfl) | (rw [h32_2]; rfl) | (rw [h32_3]; rfl) | (rw [h32_4]; rfl) | (rw [h32_5]; rfl) | (rw [h32_6]; rfl) | (rw [h32_7]; rfl) | (rw [h32_8]; rfl) | (rw [h32_9]; rfl) | (rw [h32_10]; rfl) | (rw [h32_11]; rfl) | (rw [h32_12]; rfl) | (rw [h32_13]; rfl) | (rw [h32_14]; rfl) | (rw [h32_15]; rfl) | (rw [h32_16]; rfl)), (by first | rfl | (rw [h32_0]; rfl) | (rw [h32_1]; rfl) | (rw [h32_2]; rfl) | (rw [h32_3]; rfl) | (rw [h32_4]; rfl) | (rw [h32_5]; rfl) | (rw [h32_6]; rfl) | (rw [h32_7]; rfl) | (rw [h32_8]; rfl) | (rw [h32_9]; rfl) | (rw [h32_10]; rfl) | (rw [h32_11]; rfl) | (rw [h32_12]; rfl) | (rw [h32_13]; rfl) | (rw [h32_14]; rfl) | (rw [h32_15]; rfl) | (rw [h32_16]; rfl)), (by first | rfl | (rw [h32_0]; rfl) | (rw [h32_1]; rfl) | (rw [h32_2]; rfl) | (rw [h32_3]; rfl) | (rw [h32_4]; rfl) | (rw [h32_5]; rfl) | (rw [h32_6]; rfl) | (rw [h32_7]; rfl) | (rw [h32_8]; rfl) | (rw [h32_9]; rfl) | (rw [h32_10]; rfl) | (rw [h32_11]; rfl) | (rw [h32_12]; rfl) | (rw [h32_13]; rfl) | (rw [h32_14]; rfl) | (rw [h32_15]; rfl) | (rw [h32_16]; rfl)), (by first | rfl | (rw [h32_0]; rfl) | (rw [h32_1]; rfl) | (rw [h32_2]; rfl) | (rw [h32_3]; rfl) | (rw [h32_4]; rfl) | (rw [h32_5]; rfl) | (rw [h32_6]; rfl) | (rw [h32_7]; rfl) | (rw [h32_8]; rfl) | (rw [h32_9]; rfl) | (rw [h32_10]; rfl) | (rw [h32_11]; rfl) | (rw [h32_12]; rfl) | (rw [h32_13]; rfl) | (rw [h32_14]; rfl) | (rw [h32_15]; rfl) | (rw [h32_16]; rfl)), (by first | rfl | (rw [h32]; rfl) | (simp only [h32, Bool.true_and, Bool.false_and, Bool.true_or, Bool.false_or, cond_true, cond_false]; done)), trivial⟩
                                  ·
                                   try simp only [go_sem, Nat.reduceEqDiff, reduceIte, Nat.reduceAdd, Nat.reduceMul, Nat.reduceSub, Nat.reduceLT, Nat.reduceLeDiff, h32]
                                   exact hK1 _ ⟨rfl, rfl, rfl, rfl, rfl, (by first | rfl | (rw [h32]; rfl) | (simp only [h32, Bool.true_and, Bool.false_and, Bool.true_or, Bool.false_or, cond_true, cond_false]; done)), trivial⟩
                                 ·
                                  refine xw_id ?_
                                  refine xw_stop 1 (by (try simp only [go_sem]); rfl) (by (try simp only [go_sem]); rfl) (by rfl) fun K1 hK1 => ?_
                                  refine xw_id ?_
                                  try simp only [go_sem, Nat.reduceEqDiff, reduceIte, Nat.reduceAdd, Nat.reduceMul, Nat.reduceSub, Nat.reduceLT, Nat.reduceLeDiff]
                                  refine hK1 _ ?_; clear hK1 K1
                                  obtain ⟨x157, hvh33, h0⟩ := bnd h0
                                  refine xw_cut 3 [(48, (vi x136.2.2)), (49, (.ptr 0 0)), (50, (vi x137.2)), (320, (vb x157))] (by (try simp only [go_sem]); rfl) (by (try simp only [go_sem]); rfl) (by rfl) (fun K1 hK1 => ?_) fun tz => ?_
                                  ·
                                   refine xw_id ?_
                                   rcases Bool.eq_false_or_eq_true ((((x155 && ((((((x111.2 == 2) && (x112.2 == 2)) && (x113.2 == 2)) && (x114.2 == 2)) && (x115.2 == 0)) && (x117.2.2 == 0))) && (((((x148 && (x125.2.1.Start == 2050)) && ((x125.2.1.Held.length : Int) == 1)) && (x127.2.2 == 2)) && (x129.2.2 == 2)) && (x131.2.2 == 8))) && (((x154 && (x133.2.1.Start == 11)) && ((x133.2.1.Held.length : Int) == 1)) && (x134.2.2 == 2))) && (x135.2.2 == 0)) with h33 | h33
                                   ·
                                    have hvh33 := cT hvh33 h33
                                    have h33_0 : (x155) = true := by simp only [Bool.and_eq_true] at h33; exact h33.1.1.1.1
                                    have h33_1 : (x111.2 == 2) = true := by simp only [Bool.and_eq_true] at h33; exact h33.1.1.1.2.1.1.1.1.1
                                    have h33_2 : (x112.2 == 2) = true := by simp only [Bool.and_eq_true] at h33; exact h33.1.1.1.2.1.1.1.1.2
                                    have h33_3 : (x113.2 == 2) = true := by simp only [Bool.and_eq_true] at h33; exact h33.1.1.1.2.1.1.1.2
                                    have h33_4 : (x114.2 == 2) = true := by simp only [Bool.and_eq_true] at h33; exact h33.1.1.1.2.1.1.2
                                    have h33_5 : (x115.2 == 0) = true := by simp only [Bool.and_eq_true] at h33; exact h33.1.1.1.2.1.2
                                    have h33_6 : (x117.2.2 == 0) = true := by simp only [Bool.and_eq_true] at h33; exact h33.1.1.1.2.2
                                    have h33_7 : (x148) = true := by simp only [Bool.and_eq_true] at h33; exact h33.1.1.2.1.1.1.1.1
                                    have h33_8 : (x125.2.1.Start == 2050) = true := by simp only [Bool.and_eq_true] at h33; exact h33.1.1.2.1.1.1.1.2
                                    have h33_9 : ((x125.2.1.Held.length : Int) == 1) = true := by simp only [Bool.and_eq_true] at h33; exact h33.1.1.2.1.1.1.2
                                    have h33_10 : (x127.2.2 == 2) = true := by simp only [Bool.and_eq_true] at h33; exact h33.1.1.2.1.1.2
                                    have h33_11 : (x129.2.2 == 2) = true := by simp only [Bool.and_eq_true] at h33; exact h33.1.1.2.1.2
                                    have h33_12 : (x131.2.2 == 8) = true := by simp only [Bool.and_eq_true] at h33; exact h33.1.1.2.2
                                    have h33_13 : (x154) = true := by simp only [Bool.and_eq_true] at h33; exact h33.1.2.1.1.1
                                    have h33_14 : (x133.2.1.Start == 11) = true := by simp only [Bool.and_eq_true] at h33; exact h33.1.2.1.1.2
                                    have h33_15 : ((x133.2.1.Held.length : Int) == 1) = true := by simp only [Bool.and_eq_true] at h33; exact h33.1.2.1.2
                                    have h33_16 : (x134.2.2 == 2) = true := by simp only [Bool.and_eq_true] at h33; exact h33.1.2.2
                                    have h33_17 : (x135.2.2 == 0) = true := by simp only [Bool.and_eq_true] at h33; exact h33.2
                                    obtain ⟨x156, bx156, hvh33⟩ := bnd hvh33
                                    try simp only [go_sem, Nat.reduceEqDiff, reduceIte, Nat.reduceAdd, Nat.reduceMul, Nat.reduceSub, Nat.reduceLT, Nat.reduceLeDiff, h33, h33_0, h33_1, h33_2, h33_3, h33_4, h33_5, h33_6, h33_7, h33_8, h33_9, h33_10, h33_11, h33_12, h33_13, h33_14, h33_15, h33_16, h33_17]
                                    refine xcall_N (by first | (simp only [go_sem, fz, nilS, cond_true, cond_false, Nat.reduceEqDiff, reduceIte, Nat.reduceAdd, Nat.reduceMul, Nat.reduceSub, Nat.reduceLT, Nat.reduceLeDiff]; done) | (simp only [go_sem, fz, nilS, cond_true, cond_false, Nat.reduceEqDiff, reduceIte, Nat.reduceAdd, Nat.reduceMul, Nat.reduceSub, Nat.reduceLT, Nat.reduceLeDiff]; rfl)) (hotspotlaw18_numbers_p x135.1 [] bx156) ?_; try dsimp only
                                    try refine xw_id ?_
                                    try simp only [go_sem, Nat.reduceEqDiff, reduceIte, Nat.reduceAdd, Nat.reduceMul, Nat.reduceSub, Nat.reduceLT, Nat.reduceLeDiff, h33, h33_0, h33_1, h33_2, h33_3, h33_4, h33_5, h33_6, h33_7, h33_8, h33_9, h33_10, h33_11, h33_12, h33_13, h33_14, h33_15, h33_16, h33_17]
                                    obtain rfl := someInj hvh33
                                    exact hK1 _ ⟨rfl, (by first | rfl | (rw [h33_0]; rfl) | (rw [h33_1]; rfl) | (rw [h33_2]; rfl) | (rw [h33_3]; rfl) | (rw [h33_4]; rfl) | (rw [h33_5]; rfl) | (rw [h33_6]; rfl) | (rw [h33_7]; rfl) | (rw [h33_8]; rfl) | (rw [h33_9]; rfl) | (rw [h33_10]; rfl) | (rw [h33_11]; rfl) | (rw [h33_12]; rfl) | (rw [h33_13]; rfl) | (rw [h33_14]; rfl) | (rw [h33_15]; rfl) | (rw [h33_16]; rfl) | (rw [h33_17]; rfl)), (by first | rfl | (rw [h33_0]; rfl) | (rw [h33_1]; rfl) | (rw [h33_2]; rfl) | (rw [h33_3]; rfl) | (rw [h33_4]; rfl) | (rw [h33_5]; rfl) | (rw [h33_6]; rfl) | (rw [h33_7]; rfl) | (rw [h33_8]; rfl) | (rw [h33_9]; rfl) | (rw [h33_10]; rfl) | (rw [h33_11]; rfl) | (rw [h33_12]; rfl) | (rw [h33_13]; rfl) | (rw [h33_14]; rfl) | (rw [h33_15]; rfl) | (rw [h33_16]; rfl) | (rw [h33_17]; rfl)), (by first | rfl | (rw [h33_0]; rfl) | (rw [h33_1]; rfl) | (rw [h33_2]; rfl) | (rw [h33_3]; rfl) | (rw [h33_4]; rfl) | (rw [h33_5]; rfl) | (rw [h33_6]; rfl) | (rw [h33_7]; rfl) | (rw [h33_8]; rfl) | (rw [h33_9]; rfl) | (rw [h33_10]; rfl) | (rw [h33_11]; rfl) | (rw [h33_12]; rfl) | (rw [h33_13]; rfl) | (rw [h33_14]; rfl) | (rw [h33_15]; rfl) | (rw [h33_16]; rfl) | (rw [h33_17]; rfl)), (by first | rfl | (rw [h33]; rfl) | (simp only [h33, Bool.true_and, Bool.false_and, Bool.true_or, Bool.false_or, cond_true, cond_false]; done)), trivial⟩
                                   ·
                                    have hvh33 := cF hvh33 h33
                                    try simp only [go_sem, Nat.reduceEqDiff, reduceIte, Nat.reduceAdd, Nat.reduceMul, Nat.reduceSub, Nat.reduceLT, Nat.reduceLeDiff, h33]
                                    obtain rfl := someInj hvh33
                                    exact hK1 _ ⟨rfl, rfl, rfl, rfl, (by first | rfl | (rw [h33]; rfl) | (simp only [h33, Bool.true_and, Bool.false_and, Bool.true_or, Bool.false_or, cond_true, cond_false]; done)), trivial⟩
                                  ·
                                   refine xw_id ?_
                                   refine xw_stop 1 (by (try simp only [go_sem]); rfl) (by (try simp only [go_sem]); rfl) (by rfl) fun K1 hK1 => ?_
                                   refine xw_id ?_
                                   try simp only [go_sem, Nat.reduceEqDiff, reduceIte, Nat.reduceAdd, Nat.reduceMul, Nat.reduceSub, Nat.reduceLT, Nat.reduceLeDiff]
                                   refine hK1 _ ?_; clear hK1 K1
                                   refine xw_cut 3 [(49, (.ptr 0 0)), (50, (vi x137.2)), (324, (vb (x157 && (x136.2.2 == 2))))] (by (try simp only [go_sem]); rfl) (by (try simp only [go_sem]); rfl) (by rfl) (fun K1 hK1 => ?_) fun tz => ?_
                                   ·
                                    refine xw_id ?_
                                    rcases Bool.eq_false_or_eq_true x157 with h34 | h34
                                    ·
                                     try simp only [go_sem, Nat.reduceEqDiff, reduceIte, Nat.reduceAdd, Nat.reduceMul, Nat.reduceSub, Nat.reduceLT, Nat.reduceLeDiff, h34]
                                     exact hK1 _ ⟨rfl, rfl, rfl, (by first | rfl | (rw [h34]; rfl) | (simp only [h34, Bool.true_and, Bool.false_and, Bool.true_or, Bool.false_or, cond_true, cond_false]; done)), trivial⟩
                                    ·
                                     try simp only [go_sem, Nat.reduceEqDiff, reduceIte, Nat.reduceAdd, Nat.reduceMul, Nat.reduceSub, Nat.reduceLT, Nat.reduceLeDiff, h34]
                                     exact hK1 _ ⟨rfl, rfl, rfl, (by first | rfl | (rw [h34]; rfl) | (simp only [h34, Bool.true_and, Bool.false_and, Bool.true_or, Bool.false_or, cond_true, cond_false]; done)), trivial⟩
                                   ·
                                    refine xw_id ?_
                                    refine xw_stop 1 (by (try simp only [go_sem]); rfl) (by (try simp only [go_sem]); rfl) (by rfl) fun K1 hK1 => ?_
                                    refine xw_id ?_
                                    try simp only [go_sem, Nat.reduceEqDiff, reduceIte, Nat.reduceAdd, Nat.reduceMul, Nat.reduceSub, Nat.reduceLT, Nat.reduceLeDiff]
                                    refine hK1 _ ?_; clear hK1 K1
                                    refine xw_cut 3 [(49, (.ptr 0 0)), (328, (vb ((x157 && (x136.2.2 == 2)) && (x137.2 == 0))))] (by (try simp only [go_sem]); rfl) (by (try simp only [go_sem]); rfl) (by rfl) (fun K1 hK1 => ?_) fun tz => ?_
                                    ·
                                     refine xw_id ?_
                                     rcases Bool.eq_false_or_eq_true (x157 && (x136.2.2 == 2)) with h35 | h35
                                     ·
                                      have h35_0 : (x157) = true := by simp only [Bool.and_eq_true] at h35; exact h35.1
                                      have h35_1 : (x136.2.2 == 2) = true := by simp only [Bool.and_eq_true] at h35; exact h35.2
                                      try simp only [go_sem, Nat.reduceEqDiff, reduceIte, Nat.reduceAdd, Nat.reduceMul, Nat.reduceSub, Nat.reduceLT, Nat.reduceLeDiff, h35, h35_0, h35_1]
                                      exact hK1 _ ⟨rfl, (by first | rfl | (rw [h35_0]; rfl) | (rw [h35_1]; rfl)), (by first | rfl | (rw [h35]; rfl) | (simp only [h35, Bool.true_and, Bool.false_and, Bool.true_or, Bool.false_or, cond_true, cond_false]; done)), trivial⟩
                                     ·
                                      try simp only [go_sem, Nat.reduceEqDiff, reduceIte, Nat.reduceAdd, Nat.reduceMul, Nat.reduceSub, Nat.reduceLT, Nat.reduceLeDiff, h35]
                                      exact hK1 _ ⟨rfl, rfl, (by first | rfl | (rw [h35]; rfl) | (simp only [h35, Bool.true_and, Bool.false_and, Bool.true_or, Bool.false_or, cond_true, cond_false]; done)), trivial⟩
                                    ·
                                     refine xw_id ?_
                                     refine xw_stop 1 (by (try simp only [go_sem]); rfl) (by (try simp only [go_sem]); rfl) (by rfl) fun K1 hK1 => ?_
                                     refine xw_id ?_
                                     try simp only [go_sem, Nat.reduceEqDiff, reduceIte, Nat.reduceAdd, Nat.reduceMul, Nat.reduceSub, Nat.reduceLT, Nat.reduceLeDiff]
                                     refine hK1 _ ?_; clear hK1 K1
                                     refine xw_cut 4 [(333, (vb (((x157 && (x136.2.2 == 2)) && (x137.2 == 0)) && (decide (x137.1 = { Window.z with Bits := 4, Start := 10 })))))] (by (try simp only [go_sem]); rfl) (by (try simp only [go_sem]); rfl) (by rfl) (fun K1 hK1 => ?_) fun tz => ?_
                                     ·
                                      refine xw_id ?_
                                      rcases Bool.eq_false_or_eq_true ((x157 && (x136.2.2 == 2)) && (x137.2 == 0)) with h36 | h36
                                      ·
                                       have h36_0 : (x157) = true := by simp only [Bool.and_eq_true] at h36; exact h36.1.1
                                       have h36_1 : (x136.2.2 == 2) = true := by simp only [Bool.and_eq_true] at h36; exact h36.1.2
                                       have h36_2 : (x137.2 == 0) = true := by simp only [Bool.and_eq_true] at h36; exact h36.2
                                       try simp only [go_sem, Nat.reduceEqDiff, reduceIte, Nat.reduceAdd, Nat.reduceMul, Nat.reduceSub, Nat.reduceLT, Nat.reduceLeDiff, h36, h36_0, h36_1, h36_2]
                                       exact hK1 _ ⟨rfl, (by first | rfl | (rw [h36]; rfl) | (simp only [h36, Bool.true_and, Bool.false_and, Bool.true_or, Bool.false_or, cond_true, cond_false]; done)), trivial⟩
                                      ·
                                       try simp only [go_sem, Nat.reduceEqDiff, reduceIte, Nat.reduceAdd, Nat.reduceMul, Nat.reduceSub, Nat.reduceLT, Nat.reduceLeDiff, h36]
                                       exact hK1 _ ⟨rfl, (by first | rfl | (rw [h36]; rfl) | (simp only [h36, Bool.true_and, Bool.false_and, Bool.true_or, Bool.false_or, cond_true, cond_false]; done)), trivial⟩
                                     ·
                                      refine xw_id ?_
                                      try simp only [go_sem, Nat.reduceEqDiff, reduceIte, Nat.reduceAdd, Nat.reduceMul, Nat.reduceSub, Nat.reduceLT, Nat.reduceLeDiff]
                                      refine hKK _ _ (Wk.refl _ _ _) ?_; clear hKK KK
                                      refine awp_ret1 ?_
                                      obtain rfl := someInj h0
                                      refine endW_i ?_
                                      refine end_ret0 rs10 (rfl) ?_
                                      try simp only [go_sem, Nat.reduceEqDiff, reduceIte, Nat.reduceAdd, Nat.reduceMul, Nat.reduceSub, Nat.reduceLT, Nat.reduceLeDiff, fz, nilS, packR, List.take_nil, List.take_length, List.length_map, List.length_append, cond_true, cond_false, Nat.ble_eq, ble_self]
                                      all_goals first | rfl | (simp only [go_sem, Nat.reduceEqDiff, reduceIte, Nat.reduceAdd, Nat.reduceMul, Nat.reduceSub, Nat.reduceLT, Nat.reduceLeDiff, fz, nilS, packR, List.take_nil, List.take_length, List.length_map, List.length_append, cond_true, cond_false, Nat.ble_eq, ble_self, List.map_append] <;> rfl)
                 ·
                  have h0 := cF h0 h16
                  try simp only [go_sem, Nat.reduceEqDiff, reduceIte, Nat.reduceAdd, Nat.reduceMul, Nat.reduceSub, Nat.reduceLT, Nat.reduceLeDiff, h16]
                  refine hKK _ _ (Wk.refl _ _ _) ?_; clear hKK KK
                  refine awp_nr [9,34,35,36,37,38,39,42,43,45,48,49,50,53,54] (fun _ => rfl) fun tz => ?_
                  refine awp_regW fun KK hKK => ?_
                  refine xw_id ?_
                  try simp only [List.append_eq, Array.toList_append, List.append_toArray, List.toList_toArray, List.cons_append, List.nil_append]
                  refine xw_stop 3 (by (try simp only [go_sem]); rfl) (by (try simp only [go_sem]); rfl) (by rfl) fun K1 hK1 => ?_
                  refine xw_id ?_
                  try simp only [go_sem, Nat.reduceEqDiff, reduceIte, Nat.reduceAdd, Nat.reduceMul, Nat.reduceSub, Nat.reduceLT, Nat.reduceLeDiff]
                  refine hK1 _ ?_; clear hK1 K1
                  obtain ⟨x159, hvh37, h0⟩ := bnd h0
                  refine xw_cut 3 [(9, (.ptr 0 0)), (35, (.ptr 2 0)), (37, (.imm (List.flatMap E_Frame x133.1) x133.1.length)), (38, (.ptr 3 0)), (39, (vi x133.2.2)), (42, (vi x134.2.2)), (43, (.imm (List.flatMap E_Frame x135.1) x135.1.length)), (45, (vi x135.2.2)), (48, (vi x136.2.2)), (49, (.ptr 4 0)), (50, (vi x137.2)), (53, (vb ((((((x111.2 == 2) && (x112.2 == 2)) && (x113.2 == 2)) && (x114.2 == 2)) && (x115.2 == 0)) && (x117.2.2 == 0)))), (54, (vb false)), (272, (vb x159))] (by (try simp only [go_sem]); rfl) (by (try simp only [go_sem]); rfl) (by rfl) (fun K1 hK1 => ?_) fun tz => ?_
                  ·
                   refine xw_id ?_
                   rcases Bool.eq_false_or_eq_true (x132.2.2 == 0) with h37 | h37
                   ·
                    have hvh37 := cT hvh37 h37
                    obtain ⟨x158, bx158, hvh37⟩ := bnd hvh37
                    try simp only [go_sem, Nat.reduceEqDiff, reduceIte, Nat.reduceAdd, Nat.reduceMul, Nat.reduceSub, Nat.reduceLT, Nat.reduceLeDiff, h37]
                    refine xcall_N (by first | (simp only [go_sem, fz, nilS, cond_true, cond_false, Nat.reduceEqDiff, reduceIte, Nat.reduceAdd, Nat.reduceMul, Nat.reduceSub, Nat.reduceLT, Nat.reduceLeDiff]; done) | (simp only [go_sem, fz, nilS, cond_true, cond_false, Nat.reduceEqDiff, reduceIte, Nat.reduceAdd, Nat.reduceMul, Nat.reduceSub, Nat.reduceLT, Nat.reduceLeDiff]; rfl)) (hotspotlaw18_numbers_p x132.1 [] bx158) ?_; try dsimp only
                    try refine xw_id ?_
                    try simp only [go_sem, Nat.reduceEqDiff, reduceIte, Nat.reduceAdd, Nat.reduceMul, Nat.reduceSub, Nat.reduceLT, Nat.reduceLeDiff, h37]
                    obtain rfl := someInj hvh37
                    exact hK1 _ ⟨rfl, rfl, rfl, rfl, rfl, rfl, rfl, rfl, rfl, rfl, rfl, rfl, rfl, rfl, (by first | rfl | (rw [h37]; rfl) | (simp only [h37, Bool.true_and, Bool.false_and, Bool.true_or, Bool.false_or, cond_true, cond_false]; done)), trivial⟩
                   ·
                    have hvh37 := cF hvh37 h37
                    try simp only [go_sem, Nat.reduceEqDiff, reduceIte, Nat.reduceAdd, Nat.reduceMul, Nat.reduceSub, Nat.reduceLT, Nat.reduceLeDiff, h37]
                    obtain rfl := someInj hvh37
                    exact hK1 _ ⟨rfl, rfl, rfl, rfl, rfl, rfl, rfl, rfl, rfl, rfl, rfl, rfl, rfl, rfl, (by first | rfl | (rw [h37]; rfl) | (simp only [h37, Bool.true_and, Bool.false_and, Bool.true_or, Bool.false_or, cond_true, cond_false]; done)), trivial⟩
                  ·
                   refine xw_id ?_
                   refine xw_stop 1 (by (try simp only [go_sem]); rfl) (by (try simp only [go_sem]); rfl) (by rfl) fun K1 hK1 => ?_
                   refine xw_id ?_
                   try simp only [go_sem, Nat.reduceEqDiff, reduceIte, Nat.reduceAdd, Nat.reduceMul, Nat.reduceSub, Nat.reduceLT, Nat.reduceLeDiff]
                   refine hK1 _ ?_; clear hK1 K1
                   obtain ⟨x161, hvh38, h0⟩ := bnd h0
                   refine xw_cut 4 [(37, (.imm (List.flatMap E_Frame x133.1) x133.1.length)), (38, (.ptr 3 0)), (39, (vi x133.2.2)), (42, (vi x134.2.2)), (43, (.imm (List.flatMap E_Frame x135.1) x135.1.length)), (45, (vi x135.2.2)), (48, (vi x136.2.2)), (49, (.ptr 4 0)), (50, (vi x137.2)), (53, (vb ((((((x111.2 == 2) && (x112.2 == 2)) && (x113.2 == 2)) && (x114.2 == 2)) && (x115.2 == 0)) && (x117.2.2 == 0)))), (54, (vb false)), (277, (vb x161))] (by (try simp only [go_sem]); rfl) (by (try simp only [go_sem]); rfl) (by rfl) (fun K1 hK1 => ?_) fun tz => ?_
                   ·
                    refine xw_id ?_
                    rcases Bool.eq_false_or_eq_true x159 with h38 | h38
                    ·
                     have hvh38 := cT hvh38 h38
                     obtain ⟨x160, bx160, hvh38⟩ := bnd hvh38
                     try simp only [go_sem, Nat.reduceEqDiff, reduceIte, Nat.reduceAdd, Nat.reduceMul, Nat.reduceSub, Nat.reduceLT, Nat.reduceLeDiff, h38]
                     refine xcall_p (hotspotref18_Same_p x132.2.1 x117.2.1 bx160) ?_; try dsimp only
                     try refine xw_id ?_
                     try simp only [go_sem, Nat.reduceEqDiff, reduceIte, Nat.reduceAdd, Nat.reduceMul, Nat.reduceSub, Nat.reduceLT, Nat.reduceLeDiff, h38]
                     obtain rfl := someInj hvh38
                     exact hK1 _ ⟨rfl, rfl, rfl, rfl, rfl, rfl, rfl, rfl, rfl, rfl, rfl, rfl, (by first | rfl | (rw [h38]; rfl) | (simp only [h38, Bool.true_and, Bool.false_and, Bool.true_or, Bool.false_or, cond_true, cond_false]; done)), trivial⟩
                    ·
                     have hvh38 := cF hvh38 h38
                     try simp only [go_sem, Nat.reduceEqDiff, reduceIte, Nat.reduceAdd, Nat.reduceMul, Nat.reduceSub, Nat.reduceLT, Nat.reduceLeDiff, h38]
                     obtain rfl := someInj hvh38
                     exact hK1 _ ⟨rfl, rfl, rfl, rfl, rfl, rfl, rfl, rfl, rfl, rfl, rfl, rfl, (by first | rfl | (rw [h38]; rfl) | (simp only [h38, Bool.true_and, Bool.false_and, Bool.true_or, Bool.false_or, cond_true, cond_false]; done)), trivial⟩
                   ·
                    refine xw_id ?_
                    refine xw_stop 1 (by (try simp only [go_sem]); rfl) (by (try simp only [go_sem]); rfl) (by rfl) fun K1 hK1 => ?_
                    refine xw_id ?_
                    try simp only [go_sem, Nat.reduceEqDiff, reduceIte, Nat.reduceAdd, Nat.reduceMul, Nat.reduceSub, Nat.reduceLT, Nat.reduceLeDiff]
                    refine hK1 _ ?_; clear hK1 K1
                    refine xw_cut 3 [(37, (.imm (List.flatMap E_Frame x133.1) x133.1.length)), (38, (.ptr 3 0)), (42, (vi x134.2.2)), (43, (.imm (List.flatMap E_Frame x135.1) x135.1.length)), (45, (vi x135.2.2)), (48, (vi x136.2.2)), (49, (.ptr 4 0)), (50, (vi x137.2)), (53, (vb ((((((x111.2 == 2) && (x112.2 == 2)) && (x113.2 == 2)) && (x114.2 == 2)) && (x115.2 == 0)) && (x117.2.2 == 0)))), (54, (vb false)), (281, (vb (x161 && (x133.2.2 == 0))))] (by (try simp only [go_sem]); rfl) (by (try simp only [go_sem]); rfl) (by rfl) (fun K1 hK1 => ?_) fun tz => ?_
                    ·
                     refine xw_id ?_
                     rcases Bool.eq_false_or_eq_true x161 with h39 | h39
                     ·
                      try simp only [go_sem, Nat.reduceEqDiff, reduceIte, Nat.reduceAdd, Nat.reduceMul, Nat.reduceSub, Nat.reduceLT, Nat.reduceLeDiff, h39]
                      exact hK1 _ ⟨rfl, rfl, rfl, rfl, rfl, rfl, rfl, rfl, rfl, rfl, rfl, (by first | rfl | (rw [h39]; rfl) | (simp only [h39, Bool.true_and, Bool.false_and, Bool.true_or, Bool.false_or, cond_true, cond_false]; done)), trivial⟩
                     ·
                      try simp only [go_sem, Nat.reduceEqDiff, reduceIte, Nat.reduceAdd, Nat.reduceMul, Nat.reduceSub, Nat.reduceLT, Nat.reduceLeDiff, h39]
                      exact hK1 _ ⟨rfl, rfl, rfl, rfl, rfl, rfl, rfl, rfl, rfl, rfl, rfl, (by first | rfl | (rw [h39]; rfl) | (simp only [h39, Bool.true_and, Bool.false_and, Bool.true_or, Bool.false_or, cond_true, cond_false]; done)), trivial⟩
                    ·
                     refine xw_id ?_
                     refine xw_stop 1 (by (try simp only [go_sem]); rfl) (by (try simp only [go_sem]); rfl) (by rfl) fun K1 hK1 => ?_
                     refine xw_id ?_
                     try simp only [go_sem, Nat.reduceEqDiff, reduceIte, Nat.reduceAdd, Nat.reduceMul, Nat.reduceSub, Nat.reduceLT, Nat.reduceLeDiff]
                     refine hK1 _ ?_; clear hK1 K1
                     obtain ⟨x163, hvh40, h0⟩ := bnd h0
                     refine xw_cut 3 [(38, (.ptr 3 0)), (42, (vi x134.2.2)), (43, (.imm (List.flatMap E_Frame x135.1) x135.1.length)), (45, (vi x135.2.2)), (48, (vi x136.2.2)), (49, (.ptr 4 0)), (50, (vi x137.2)), (53, (vb ((((((x111.2 == 2) && (x112.2 == 2)) && (x113.2 == 2)) && (x114.2 == 2)) && (x115.2 == 0)) && (x117.2.2 == 0)))), (54, (vb false)), (285, (vb x163))] (by (try simp only [go_sem]); rfl) (by (try simp only [go_sem]); rfl) (by rfl) (fun K1 hK1 => ?_) fun tz => ?_
                     ·
                      refine xw_id ?_
                      rcases Bool.eq_false_or_eq_true (x161 && (x133.2.2 == 0)) with h40 | h40
                      ·
                       have hvh40 := cT hvh40 h40
                       have h40_0 : (x161) = true := by simp only [Bool.and_eq_true] at h40; exact h40.1
                       have h40_1 : (x133.2.2 == 0) = true := by simp only [Bool.and_eq_true] at h40; exact h40.2
                       obtain ⟨x162, bx162, hvh40⟩ := bnd hvh40
                       try simp only [go_sem, Nat.reduceEqDiff, reduceIte, Nat.reduceAdd, Nat.reduceMul, Nat.reduceSub, Nat.reduceLT, Nat.reduceLeDiff, h40, h40_0, h40_1]
                       refine xcall_N (by first | (simp only [go_sem, fz, nilS, cond_true, cond_false, Nat.reduceEqDiff, reduceIte, Nat.reduceAdd, Nat.reduceMul, Nat.reduceSub, Nat.reduceLT, Nat.reduceLeDiff]; done) | (simp only [go_sem, fz, nilS, cond_true, cond_false, Nat.reduceEqDiff, reduceIte, Nat.reduceAdd, Nat.reduceMul, Nat.reduceSub, Nat.reduceLT, Nat.reduceLeDiff]; rfl)) (hotspotlaw18_numbers_p x133.1 [] bx162) ?_; try dsimp only
                       try refine xw_id ?_
                       try simp only [go_sem, Nat.reduceEqDiff, reduceIte, Nat.reduceAdd, Nat.reduceMul, Nat.reduceSub, Nat.reduceLT, Nat.reduceLeDiff, h40, h40_0, h40_1]
                       obtain rfl := someInj hvh40
                       exact hK1 _ ⟨rfl, (by first | rfl | (rw [h40_0]; rfl) | (rw [h40_1]; rfl)), (by first | rfl | (rw [h40_0]; rfl) | (rw [h40_1]; rfl)), (by first | rfl | (rw [h40_0]; rfl) | (rw [h40_1]; rfl)), (by first | rfl | (rw [h40_0]; rfl) | (rw [h40_1]; rfl)), (by first | rfl | (rw [h40_0]; rfl) | (rw [h40_1]; rfl)), (by first | rfl | (rw [h40_0]; rfl) | (rw [h40_1]; rfl)), (by first | rfl | (rw [h40_0]; rfl) | (rw [h40_1]; rfl)), (by first | rfl | (rw [h40_0]; rfl) | (rw [h40_1]; rfl)), (by first | rfl | (rw [h40_0]; rfl) | (rw [h40_1]; rfl)), (by first | rfl | (rw [h40]; rfl) | (simp only [h40, Bool.true_and, Bool.false_and, Bool.true_or, Bool.false_or, cond_true, cond_false]; done)), trivial⟩
                      ·
                       have hvh40 := cF hvh40 h40
                       try simp only [go_sem, Nat.reduceEqDiff, reduceIte, Nat.reduceAdd, Nat.reduceMul, Nat.reduceSub, Nat.reduceLT, Nat.reduceLeDiff, h40]
                       obtain rfl := someInj hvh40
                       exact hK1 _ ⟨rfl, rfl, rfl, rfl, rfl, rfl, rfl, rfl, rfl, rfl, (by first | rfl | (rw [h40]; rfl) | (simp only [h40, Bool.true_and, Bool.false_and, Bool.true_or, Bool.false_or, cond_true, cond_false]; done)), trivial⟩
                     ·
                      refine xw_id ?_
                      refine xw_stop 1 (by (try simp only [go_sem]); rfl) (by (try simp only [go_sem]); rfl) (by rfl) fun K1 hK1 => ?_
                      refine xw_id ?_
                      try simp only [go_sem, Nat.reduceEqDiff, reduceIte, Nat.reduceAdd, Nat.reduceMul, Nat.reduceSub, Nat.reduceLT, Nat.reduceLeDiff]
                      refine hK1 _ ?_; clear hK1 K1
                      refine xw_cut 4 [(38, (.ptr 3 0)), (42, (vi x134.2.2)), (43, (.imm (List.flatMap E_Frame x135.1) x135.1.length)), (45, (vi x135.2.2)), (48, (vi x136.2.2)), (49, (.ptr 4 0)), (50, (vi x137.2)), (53, (vb ((((((x111.2 == 2) && (x112.2 == 2)) && (x113.2 == 2)) && (x114.2 == 2)) && (x115.2 == 0)) && (x117.2.2 == 0)))), (54, (vb false)), (290, (vb (x163 && (x133.2.1.Start == 11))))] (by (try simp only [go_sem]); rfl) (by (try simp only [go_sem]); rfl) (by rfl) (fun K1 hK1 => ?_) fun tz => ?_
                      ·
                       refine xw_id ?_
                       rcases Bool.eq_false_or_eq_true x163 with h41 | h41
                       ·
                        try simp only [go_sem, Nat.reduceEqDiff, reduceIte, Nat.reduceAdd, Nat.reduceMul, Nat.reduceSub, Nat.reduceLT, Nat.reduceLeDiff, h41]
                        exact hK1 _ ⟨rfl, rfl, rfl, rfl, rfl, rfl, rfl, rfl, rfl, rfl, (by first | rfl | (rw [h41]; rfl) | (simp only [h41, Bool.true_and, Bool.false_and, Bool.true_or, Bool.false_or, cond_true, cond_false]; done)), trivial⟩
                       ·
                        try simp only [go_sem, Nat.reduceEqDiff, reduceIte, Nat.reduceAdd, Nat.reduceMul, Nat.reduceSub, Nat.reduceLT, Nat.reduceLeDiff, h41]
                        exact hK1 _ ⟨rfl, rfl, rfl, rfl, rfl, rfl, rfl, rfl, rfl, rfl, (by first | rfl | (rw [h41]; rfl) | (simp only [h41, Bool.true_and, Bool.false_and, Bool.true_or, Bool.false_or, cond_true, cond_false]; done)), trivial⟩
                      ·
                       refine xw_id ?_
                       refine xw_stop 1 (by (try simp only [go_sem]); rfl) (by (try simp only [go_sem]); rfl) (by rfl) fun K1 hK1 => ?_
                       refine xw_id ?_
                       try simp only [go_sem, Nat.reduceEqDiff, reduceIte, Nat.reduceAdd, Nat.reduceMul, Nat.reduceSub, Nat.reduceLT, Nat.reduceLeDiff]
                       refine hK1 _ ?_; clear hK1 K1
                       refine xw_cut 5 [(42, (vi x134.2.2)), (43, (.imm (List.flatMap E_Frame x135.1) x135.1.length)), (45, (vi x135.2.2)), (48, (vi x136.2.2)), (49, (.ptr 4 0)), (50, (vi x137.2)), (53, (vb ((((((x111.2 == 2) && (x112.2 == 2)) && (x113.2 == 2)) && (x114.2 == 2)) && (x115.2 == 0)) && (x117.2.2 == 0)))), (54, (vb false)), (296, (vb ((x163 && (x133.2.1.Start == 11)) && ((x133.2.1.Held.length : Int) == 1))))] (by (try simp only [go_sem]); rfl) (by (try simp only [go_sem]); rfl) (by rfl) (fun K1 hK1 => ?_) fun tz => ?_
                       ·
                        refine xw_id ?_
                        rcases Bool.eq_false_or_eq_true (x163 && (x133.2.1.Start == 11)) with h42 | h42
                        ·
                         have h42_0 : (x163) = true := by simp only [Bool.and_eq_true] at h42; exact h42.1
                         have h42_1 : (x133.2.1.Start == 11) = true := by simp only [Bool.and_eq_true] at h42; exact h42.2
                         try simp only [go_sem, Nat.reduceEqDiff, reduceIte, Nat.reduceAdd, Nat.reduceMul, Nat.reduceSub, Nat.reduceLT, Nat.reduceLeDiff, Int.reduceToNat, Int.reduceBEq, Int.reduceBNe, Int.reduceLT, Int.reduceLE, Int.reduceAdd, Int.reduceSub, Int.reduceMul, Int.reduceNeg, Int.reduceEq, Int.reduceNe, h42, h42_0, h42_1]
                         exact hK1 _ ⟨rfl, (by first | rfl | (rw [h42_0]; rfl) | (rw [h42_1]; rfl)), (by first | rfl | (rw [h42_0]; rfl) | (rw [h42_1]; rfl)), (by first | rfl | (rw [h42_0]; rfl) | (rw [h42_1]; rfl)), (by first | rfl | (rw [h42_0]; rfl) | (rw [h42_1]; rfl)), (by first | rfl | (rw [h42_0]; rfl) | (rw [h42_1]; rfl)), (by first | rfl | (rw [h42_0]; rfl) | (rw [h42_1]; rfl)), (by first | rfl | (rw [h42_0]; rfl) | (rw [h42_1]; rfl)), (by first | rfl | (rw [h42_0]; rfl) | (rw [h42_1]; rfl)), (by first | rfl | (rw [h42]; rfl) | (simp only [h42, Bool.true_and, Bool.false_and, Bool.true_or, Bool.false_or, cond_true, cond_false]; done)), trivial⟩
                        ·
                         try simp only [go_sem, Nat.reduceEqDiff, reduceIte, Nat.reduceAdd, Nat.reduceMul, Nat.reduceSub, Nat.reduceLT, Nat.reduceLeDiff, h42]
                         exact hK1 _ ⟨rfl, rfl, rfl, rfl, rfl, rfl, rfl, rfl, rfl, (by first | rfl | (rw [h42]; rfl) | (simp only [h42, Bool.true_and, Bool.false_and, Bool.true_or, Bool.false_or, cond_true, cond_false]; done)), trivial⟩
                       ·
                        refine xw_id ?_
                        refine xw_stop 1 (by (try simp only [go_sem]); rfl) (by (try simp only [go_sem]); rfl) (by rfl) fun K1 hK1 => ?_
                        refine xw_id ?_
                        try simp only [go_sem, Nat.reduceEqDiff, reduceIte, Nat.reduceAdd, Nat.reduceMul, Nat.reduceSub, Nat.reduceLT, Nat.reduceLeDiff]
                        refine hK1 _ ?_; clear hK1 K1
                        refine xw_cut 3 [(43, (.imm (List.flatMap E_Frame x135.1) x135.1.length)), (45, (vi x135.2.2)), (48, (vi x136.2.2)), (49, (.ptr 4 0)), (50, (vi x137.2)), (53, (vb ((((((x111.2 == 2) && (x112.2 == 2)) && (x113.2 == 2)) && (x114.2 == 2)) && (x115.2 == 0)) && (x117.2.2 == 0)))), (54, (vb false)), (300, (vb (((x163 && (x133.2.1.Start == 11)) && ((x133.2.1.Held.length : Int) == 1)) && (x134.2.2 == 2))))] (by (try simp only [go_sem]); rfl) (by (try simp only [go_sem]); rfl) (by rfl) (fun K1 hK1 => ?_) fun tz => ?_
                        ·
                         refine xw_id ?_
                         rcases Bool.eq_false_or_eq_true ((x163 && (x133.2.1.Start == 11)) && ((x133.2.1.Held.length : Int) == 1)) with h43 | h43
                         ·
                          have h43_0 : (x163) = true := by simp only [Bool.and_eq_true] at h43; exact h43.1.1
                          have h43_1 : (x133.2.1.Start == 11) = true := by simp only [Bool.and_eq_true] at h43; exact h43.1.2
                          have h43_2 : ((x133.2.1.Held.length : Int) == 1) = true := by simp only [Bool.and_eq_true] at h43; exact h43.2
                          try simp only [go_sem, Nat.reduceEqDiff, reduceIte, Nat.reduceAdd, Nat.reduceMul, Nat.reduceSub, Nat.reduceLT, Nat.reduceLeDiff, h43, h43_0, h43_1, h43_2]
                          exact hK1 _ ⟨rfl, (by first | rfl | (rw [h43_0]; rfl) | (rw [h43_1]; rfl) | (rw [h43_2]; rfl)), (by first | rfl | (rw [h43_0]; rfl) | (rw [h43_1]; rfl) | (rw [h43_2]; rfl)), (by first | rfl | (rw [h43_0]; rfl) | (rw [h43_1]; rfl) | (rw [h43_2]; rfl)), (by first | rfl | (rw [h43_0]; rfl) | (rw [h43_1]; rfl) | (rw [h43_2]; rfl)), (by first | rfl | (rw [h43_0]; rfl) | (rw [h43_1]; rfl) | (rw [h43_2]; rfl)), (by first | rfl | (rw [h43_0]; rfl) | (rw [h43_1]; rfl) | (rw [h43_2]; rfl)), (by first | rfl | (rw [h43_0]; rfl) | (rw [h43_1]; rfl) | (rw [h43_2]; rfl)), (by first | rfl | (rw [h43]; rfl) | (simp only [h43, Bool.true_and, Bool.false_and, Bool.true_or, Bool.false_or, cond_true, cond_false]; done)), trivial⟩
                         ·
                          try simp only [go_sem, Nat.reduceEqDiff, reduceIte, Nat.reduceAdd, Nat.reduceMul, Nat.reduceSub, Nat.reduceLT, Nat.reduceLeDiff, h43]
                          exact hK1 _ ⟨rfl, rfl, rfl, rfl, rfl, rfl, rfl, rfl, (by first | rfl | (rw [h43]; rfl) | (simp only [h43, Bool.true_and, Bool.false_and, Bool.true_or, Bool.false_or, cond_true, cond_false]; done)), trivial⟩
                        ·
                         refine xw_id ?_
                         try simp only [go_sem, Nat.reduceEqDiff, reduceIte, Nat.reduceAdd, Nat.reduceMul, Nat.reduceSub, Nat.reduceLT, Nat.reduceLeDiff]
                         refine hKK _ (hotspotlaw18_ReorderNames_S19 x137 x135 x136 x111 x112 x113 x114 x115 x117 x163 x133 x134) (Wk.canonD [] [] [some 4] rfl trivial rfl (tmOU 0 tmO0 rfl List.not_mem_nil (by simp only [upd_get, Nat.reduceEqDiff, reduceIte, Nat.reduceAdd, Nat.reduceMul, Nat.reduceSub, Nat.reduceLT, Nat.reduceLeDiff, if_true, if_false] <;> rfl) (TmL.clean (e_Window_clean _))) (tmAllU 55 (tmAllU 54 (tmAllU 53 (tmAllU 50 (tmAllU 49 (tmAllU 48 (tmAllU 45 (tmAllU 43 tmAll0 (Tm.clean (Clean.imm (c_Frame _)))) (Tm.v _)) (Tm.v _)) (Tm.ptr rfl)) (Tm.v _)) (Tm.v _)) (Tm.v _)) (Tm.v _))) ?_; clear hKK KK
                         unfold hotspotlaw18_ReorderNames_S19
                         refine awp_nr [43,45,48,49,50,53,54,55] (fun _ => rfl) fun tz => ?_
                         refine awp_regW fun KK hKK => ?_
                         refine xw_id ?_
                         try simp only [List.append_eq, Array.toList_append, List.append_toArray, List.toList_toArray, List.cons_append, List.nil_append]
                         obtain ⟨x164, bx164, h0⟩ := bnd h0
                         try simp only [go_sem, Nat.reduceEqDiff, reduceIte, Nat.reduceAdd, Nat.reduceMul, Nat.reduceSub, Nat.reduceLT, Nat.reduceLeDiff]
                         refine xcall_p (hotspotlaw18_alive_p  bx164) ?_; try dsimp only
                         try refine xw_id ?_
                         refine xw_stop 2 (by (try simp only [go_sem]); rfl) (by (try simp only [go_sem]); rfl) (by rfl) fun K1 hK1 => ?_
                         refine xw_id ?_
                         try simp only [go_sem, Nat.reduceEqDiff, reduceIte, Nat.reduceAdd, Nat.reduceMul, Nat.reduceSub, Nat.reduceLT, Nat.reduceLeDiff]
                         refine hK1 _ ?_; clear hK1 K1
                         refine xw_cut 2 [(43, (.imm (List.flatMap E_Frame x135.1) x135.1.length)), (45, (vi x135.2.2)), (48, (vi x136.2.2)), (49, (.ptr 0 0)), (50, (vi x137.2)), (54, (vb false)), (55, (vb (((x163 && (x133.2.1.Start == 11)) && ((x133.2.1.Held.length : Int) == 1)) && (x134.2.2 == 2)))), (306, (vb (x164 && ((((((x111.2 == 2) && (x112.2 == 2)) && (x113.2 == 2)) && (x114.2 == 2)) && (x115.2 == 0)) && (x117.2.2 == 0)))))] (by (try simp only [go_sem]); rfl) (by (try simp only [go_sem]); rfl) (by rfl) (fun K1 hK1 => ?_) fun tz => ?_
                         ·
                          refine xw_id ?_
                          rcases Bool.eq_false_or_eq_true x164 with h44 | h44
                          ·
                           try simp only [go_sem, Nat.reduceEqDiff, reduceIte, Nat.reduceAdd, Nat.reduceMul, Nat.reduceSub, Nat.reduceLT, Nat.reduceLeDiff, h44]
                           exact hK1 _ ⟨rfl, rfl, rfl, rfl, rfl, rfl, rfl, rfl, (by first | rfl | (rw [h44]; rfl) | (simp only [h44, Bool.true_and, Bool.false_and, Bool.true_or, Bool.false_or, cond_true, cond_false]; done)), trivial⟩
                          ·
                           try simp only [go_sem, Nat.reduceEqDiff, reduceIte, Nat.reduceAdd, Nat.reduceMul, Nat.reduceSub, Nat.reduceLT, Nat.reduceLeDiff, h44]
                           exact hK1 _ ⟨rfl, rfl, rfl, rfl, rfl, rfl, rfl, rfl, (by first | rfl | (rw [h44]; rfl) | (simp only [h44, Bool.true_and, Bool.false_and, Bool.true_or, Bool.false_or, cond_true, cond_false]; done)), trivial⟩
                         ·
                          refine xw_id ?_
                          refine xw_stop 1 (by (try simp only [go_sem]); rfl) (by (try simp only [go_sem]); rfl) (by rfl) fun K1 hK1 => ?_
                          refine xw_id ?_
                          try simp only [go_sem, Nat.reduceEqDiff, reduceIte, Nat.reduceAdd, Nat.reduceMul, Nat.reduceSub, Nat.reduceLT, Nat.reduceLeDiff]
                          refine hK1 _ ?_; clear hK1 K1
                          refine xw_cut 2 [(43, (.imm (List.flatMap E_Frame x135.1) x135.1.length)), (45, (vi x135.2.2)), (48, (vi x136.2.2)), (49, (.ptr 0 0)), (50, (vi x137.2)), (55, (vb (((x163 && (x133.2.1.Start == 11)) && ((x133.2.1.Held.length : Int) == 1)) && (x134.2.2 == 2)))), (309, (vb ((x164 && ((((((x111.2 == 2) && (x112.2 == 2)) && (x113.2 == 2)) && (x114.2 == 2)) && (x115.2 == 0)) && (x117.2.2 == 0))) && false)))] (by (try simp only [go_sem]); rfl) (by (try simp only [go_sem]); rfl) (by rfl) (fun K1 hK1 => ?_) fun tz => ?_
                          ·
                           refine xw_id ?_
                           rcases Bool.eq_false_or_eq_true (x164 && ((((((x111.2 == 2) && (x112.2 == 2)) && (x113.2 == 2)) && (x114.2 == 2)) && (x115.2 == 0)) && (x117.2.2 == 0))) with h45 | h45
                           ·
                            have h45_0 : (x164) = true := by simp only [Bool.and_eq_true] at h45; exact h45.1
                            have h45_1 : (x111.2 == 2) = true := by simp only [Bool.and_eq_true] at h45; exact h45.2.1.1.1.1.1
                            have h45_2 : (x112.2 == 2) = true := by simp only [Bool.and_eq_true] at h45; exact h45.2.1.1.1.1.2
                            have h45_3 : (x113.2 == 2) = true := by simp only [Bool.and_eq_true] at h45; exact h45.2.1.1.1.2
                            have h45_4 : (x114.2 == 2) = true := by simp only [Bool.and_eq_true] at h45; exact h45.2.1.1.2
                            have h45_5 : (x115.2 == 0) = true := by simp only [Bool.and_eq_true] at h45; exact h45.2.1.2
                            have h45_6 : (x117.2.2 == 0) = true := by simp only [Bool.and_eq_true] at h45; exact h45.2.2
                            try simp only [go_sem, Nat.reduceEqDiff, reduceIte, Nat.reduceAdd, Nat.reduceMul, Nat.reduceSub, Nat.reduceLT, Nat.reduceLeDiff, h45, h45_0, h45_1, h45_2, h45_3, h45_4, h45_5, h45_6]
                            exact hK1 _ ⟨rfl, (by first | rfl | (rw [h45_0]; rfl) | (rw [h45_1]; rfl) | (rw [h45_2]; rfl) | (rw [h45_3]; rfl) | (rw [h45_4]; rfl) | (rw [h45_5]; rfl) | (rw [h45_6]; rfl)), (by first | rfl | (rw [h45_0]; rfl) | (rw [h45_1]; rfl) | (rw [h45_2]; rfl) | (rw [h45_3]; rfl) | (rw [h45_4]; rfl) | (rw [h45_5]; rfl) | (rw [h45_6]; rfl)), (by first | rfl | (rw [h45_0]; rfl) | (rw [h45_1]; rfl) | (rw [h45_2]; rfl) | (rw [h45_3]; rfl) | (rw [h45_4]; rfl) | (rw [h45_5]; rfl) | (rw [h45_6]; rfl)), (by first | rfl | (rw [h45_0]; rfl) | (rw [h45_1]; rfl) | (rw [h45_2]; rfl) | (rw [h45_3]; rfl) | (rw [h45_4]; rfl) | (rw [h45_5]; rfl) | (rw [h45_6]; rfl)), (by first | rfl | (rw [h45_0]; rfl) | (rw [h45_1]; rfl) | (rw [h45_2]; rfl) | (rw [h45_3]; rfl) | (rw [h45_4]; rfl) | (rw [h45_5]; rfl) | (rw [h45_6]; rfl)), (by first | rfl | (rw [h45_0]; rfl) | (rw [h45_1]; rfl) | (rw [h45_2]; rfl) | (rw [h45_3]; rfl) | (rw [h45_4]; rfl) | (rw [h45_5]; rfl) | (rw [h45_6]; rfl)), (by first | rfl | (rw [h45]; rfl) | (simp only [h45, Bool.true_and, Bool.false_and, Bool.true_or, Bool.false_or, cond_true, cond_false]; done)), trivial⟩
                           ·
                            try simp only [go_sem, Nat.reduceEqDiff, reduceIte, Nat.reduceAdd, Nat.reduceMul, Nat.reduceSub, Nat.reduceLT, Nat.reduceLeDiff, h45]
                            exact hK1 _ ⟨rfl, rfl, rfl, rfl, rfl, rfl, rfl, (by first | rfl | (rw [h45]; rfl) | (simp only [h45, Bool.true_and, Bool.false_and, Bool.true_or, Bool.false_or, cond_true, cond_false]; done)), trivial⟩
                          ·
                           refine xw_id ?_
                           refine xw_stop 1 (by (try simp only [go_sem]); rfl) (by (try simp only [go_sem]); rfl) (by rfl) fun K1 hK1 => ?_
                           refine xw_id ?_
                           try simp only [go_sem, Nat.reduceEqDiff, reduceIte, Nat.reduceAdd, Nat.reduceMul, Nat.reduceSub, Nat.reduceLT, Nat.reduceLeDiff]
                           refine hK1 _ ?_; clear hK1 K1
                           refine xw_cut 2 [(43, (.imm (List.flatMap E_Frame x135.1) x135.1.length)), (45, (vi x135.2.2)), (48, (vi x136.2.2)), (49, (.ptr 0 0)), (50, (vi x137.2)), (312, (vb (((x164 && ((((((x111.2 == 2) && (x112.2 == 2)) && (x113.2 == 2)) && (x114.2 == 2)) && (x115.2 == 0)) && (x117.2.2 == 0))) && false) && (((x163 && (x133.2.1.Start == 11)) && ((x133.2.1.Held.length : Int) == 1)) && (x134.2.2 == 2)))))] (by (try simp only [go_sem]); rfl) (by (try simp only [go_sem]); rfl) (by rfl) (fun K1 hK1 => ?_) fun tz => ?_
                           ·
                            refine xw_id ?_
                            rcases Bool.eq_false_or_eq_true ((x164 && ((((((x111.2 == 2) && (x112.2 == 2)) && (x113.2 == 2)) && (x114.2 == 2)) && (x115.2 == 0)) && (x117.2.2 == 0))) && false) with h46 | h46
                            ·
                             have h46_0 : (x164) = true := by simp only [Bool.and_eq_true] at h46; exact h46.1.1
                             have h46_1 : (x111.2 == 2) = true := by simp only [Bool.and_eq_true] at h46; exact h46.1.2.1.1.1.1.1
                             have h46_2 : (x112.2 == 2) = true := by simp only [Bool.and_eq_true] at h46; exact h46.1.2.1.1.1.1.2
                             have h46_3 : (x113.2 == 2) = true := by simp only [Bool.and_eq_true] at h46; exact h46.1.2.1.1.1.2
                             have h46_4 : (x114.2 == 2) = true := by simp only [Bool.and_eq_true] at h46; exact h46.1.2.1.1.2
                             have h46_5 : (x115.2 == 0) = true := by simp only [Bool.and_eq_true] at h46; exact h46.1.2.1.2
                             have h46_6 : (x117.2.2 == 0) = true := by simp only [Bool.and_eq_true] at h46; exact h46.1.2.2
                             have h46_7 : (false) = true := by simp only [Bool.and_eq_true] at h46; exact h46.2
                             try simp only [go_sem, Nat.reduceEqDiff, reduceIte, Nat.reduceAdd, Nat.reduceMul, Nat.reduceSub, Nat.reduceLT, Nat.reduceLeDiff, h46, h46_0, h46_1, h46_2, h46_3, h46_4, h46_5, h46_6, h46_7]
                             exact hK1 _ ⟨rfl, (by first | rfl | (rw [h46_0]; rfl) | (rw [h46_1]; rfl) | (rw [h46_2]; rfl) | (rw [h46_3]; rfl) | (rw [h46_4]; rfl) | (rw [h46_5]; rfl) | (rw [h46_6]; rfl) | (rw [h46_7]; rfl)), (by first | rfl | (rw [h46_0]; rfl) | (rw [h46_1]; rfl) | (rw [h46_2]; rfl) | (rw [h46_3]; rfl) | (rw [h46_4]; rfl) | (rw [h46_5]; rfl) | (rw [h46_6]; rfl) | (rw [h46_7]; rfl)), (by first | rfl | (rw [h46_0]; rfl) | (rw [h46_1]; rfl) | (rw [h46_2]; rfl) | (rw [h46_3]; rfl) | (rw [h46_4]; rfl) | (rw [h46_5]; rfl) | (rw [h46_6]; rfl) | (rw [h46_7]; rfl)), (by first | rfl | (rw [h46_0]; rfl) | (rw [h46_1]; rfl) | (rw [h46_2]; rfl) | (rw [h46_3]; rfl) | (rw [h46_4]; rfl) | (rw [h46_5]; rfl) | (rw [h46_6]; rfl) | (rw [h46_7]; rfl)), (by first | rfl | (rw [h46_0]; rfl) | (rw [h46_1]; rfl) | (rw [h46_2]; rfl) | (rw [h46_3]; rfl) | (rw [h46_4]; rfl) | (rw [h46_5]; rfl) | (rw [h46_6]; rfl) | (rw [h46_7]; rfl)), (by first | rfl | (rw [h46]; rfl) | (simp only [h46, Bool.true_and, Bool.false_and, Bool.true_or, Bool.false_or, cond_true, cond_false]; done)), trivial⟩
                            ·
                             try simp only [go_sem, Nat.reduceEqDiff, reduceIte, Nat.reduceAdd, Nat.reduceMul, Nat.reduceSub, Nat.reduceLT, Nat.reduceLeDiff, h46]
                             exact hK1 _ ⟨rfl, rfl, rfl, rfl, rfl, rfl, (by first | rfl | (rw [h46]; rfl) | (simp only [h46, Bool.true_and, Bool.false_and, Bool.true_or, Bool.false_or, cond_true, cond_false]; done)), trivial⟩
                           ·
                            refine xw_id ?_
                            refine xw_stop 1 (by (try simp only [go_sem]); rfl) (by (try simp only [go_sem]); rfl) (by rfl) fun K1 hK1 => ?_
                            refine xw_id ?_
                            try simp only [go_sem, Nat.reduceEqDiff, reduceIte, Nat.reduceAdd, Nat.reduceMul, Nat.reduceSub, Nat.reduceLT, Nat.reduceLeDiff]
                            refine hK1 _ ?_; clear hK1 K1
                            refine xw_cut 3 [(43, (.imm (List.flatMap E_Frame x135.1) x135.1.length)), (48, (vi x136.2.2)), (49, (.ptr 0 0)), (50, (vi x137.2)), (316, (vb ((((x164 && ((((((x111.2 == 2) && (x112.2 == 2)) && (x113.2 == 2)) && (x114.2 == 2)) && (x115.2 == 0)) && (x117.2.2 == 0))) && false) && (((x163 && (x133.2.1.Start == 11)) && ((x133.2.1.Held.length : Int) == 1)) && (x134.2.2 == 2))) && (x135.2.2 == 0))))] (by (try simp only [go_sem]); rfl) (by (try simp only [go_sem]); rfl) (by rfl) (fun K1 hK1 => ?_) fun tz => ?_
                            ·
                             refine xw_id ?_
                             rcases Bool.eq_false_or_eq_true (((x164 && ((((((x111.2 == 2) && (x112.2 == 2)) && (x113.2 == 2)) && (x114.2 == 2)) && (x115.2 == 0)) && (x117.2.2 == 0))) && false) && (((x163 && (x133.2.1.Start == 11)) && ((x133.2.1.Held.length : Int) == 1)) && (x134.2.2 == 2))) with h47 | h47
                             ·
                              have h47_0 : (x164) = true := by simp only [Bool.and_eq_true] at h47; exact h47.1.1.1
                              have h47_1 : (x111.2 == 2) = true := by simp only [Bool.and_eq_true] at h47; exact h47.1.1.2.1.1.1.1.1
                              have h47_2 : (x112.2 == 2) = true := by simp only [Bool.and_eq_true] at h47; exact h47.1.1.2.1.1.1.1.2
                              have h47_3 : (x113.2 == 2) = true := by simp only [Bool.and_eq_true] at h47; exact h47.1.1.2.1.1.1.2
                              have h47_4 : (x114.2 == 2) = true := by simp only [Bool.and_eq_true] at h47; exact h47.1.1.2.1.1.2
                              have h47_5 : (x115.2 == 0) = true := by simp only [Bool.and_eq_true] at h47; exact h47.1.1.2.1.2
                              have h47_6 : (x117.2.2 == 0) = true := by simp only [Bool.and_eq_true] at h47; exact h47.1.1.2.2
                              have h47_7 : (false) = true := by simp only [Bool.and_eq_true] at h47; exact h47.1.2
                              have h47_8 : (x163) = true := by simp only [Bool.and_eq_true] at h47; exact h47.2.1.1.1
                              have h47_9 : (x133.2.1.Start == 11) = true := by simp only [Bool.and_eq_true] at h47; exact h47.2.1.1.2
                              have h47_10 : ((x133.2.1.Held.length : Int) == 1) = true := by simp only [Bool.and_eq_true] at h47; exact h47.2.1.2
                              have h47_11 : (x134.2.2 == 2) = true := by simp only [Bool.and_eq_true] at h47; exact h47.2.2
                              try simp only [go_sem, Nat.reduceEqDiff, reduceIte, Nat.reduceAdd, Nat.reduceMul, Nat.reduceSub, Nat.reduceLT, Nat.reduceLeDiff, h47, h47_0, h47_1, h47_2, h47_3, h47_4, h47_5, h47_6, h47_7, h47_8, h47_9, h47_10, h47_11]
                              exact hK1 _ ⟨rfl, (by first | rfl | (rw [h47_0]; rfl) | (rw [h47_1]; rfl) | (rw [h47_2]; rfl) | (rw [h47_3]; rfl) | (rw [h47_4]; rfl) | (rw [h47_5]; rfl) | (rw [h47_6]; rfl) | (rw [h47_7]; rfl) | (rw [h47_8]; rfl) | (rw [h47_9]; rfl) | (rw [h47_10]; rfl) | (rw [h47_11]; rfl)), (by first | rfl | (rw [h47_0]; rfl) | (rw [h47_1]; rfl) | (rw [h47_2]; rfl) | (rw [h47_3]; rfl) | (rw [h47_4]; rfl) | (rw [h47_5]; rfl) | (rw [h47_6]; rfl) | (rw [h47_7]; rfl) | (rw [h47_8]; rfl) | (rw [h47_9]; rfl) | (rw [h47_10]; rfl) | (rw [h47_11]; rfl)), (by first | rfl | (rw [h47_0]; rfl) | (rw [h47_1]; rfl) | (rw [h47_2]; rfl) | (rw [h47_3]; rfl) | (rw [h47_4]; rfl) | (rw [h47_5]; rfl) | (rw [h47_6]; rfl) | (rw [h47_7]; rfl) | (rw [h47_8]; rfl) | (rw [h47_9]; rfl) | (rw [h47_10]; rfl) | (rw [h47_11]; rfl)), (by first | rfl | (rw [h47_0]; rfl) | (rw [h47_1]; rfl) | (rw [h47_2]; rfl) | (rw [h47_3]; rfl) | (rw [h47_4]; rfl) | (rw [h47_5]; rfl) | (rw [h47_6]; rfl) | (rw [h47_7]; rfl) | (rw [h47_8]; rfl) | (rw [h47_9]; rfl) | (rw [h47_10]; rfl) | (rw [h47_11]; rfl)), (by first | rfl | (rw [h47]; rfl) | (simp only [h47, Bool.true_and, Bool.false_and, Bool.true_or, Bool.false_or, cond_true, cond_false]; done)), trivial⟩
                             ·
                              try simp only [go_sem, Nat.reduceEqDiff, reduceIte, Nat.reduceAdd, Nat.reduceMul, Nat.reduceSub, Nat.reduceLT, Nat.reduceLeDiff, h47]
                              exact hK1 _ ⟨rfl, rfl, rfl, rfl, rfl, (by first | rfl | (rw [h47]; rfl) | (simp only [h47, Bool.true_and, Bool.false_and, Bool.true_or, Bool.false_or, cond_true, cond_false]; done)), trivial⟩
                            ·
                             refine xw_id ?_
                             refine xw_stop 1 (by (try simp only [go_sem]); rfl) (by (try simp only [go_sem]); rfl) (by rfl) fun K1 hK1 => ?_
                             refine xw_id ?_
                             try simp only [go_sem, Nat.reduceEqDiff, reduceIte, Nat.reduceAdd, Nat.reduceMul, Nat.reduceSub, Nat.reduceLT, Nat.reduceLeDiff]
                             refine hK1 _ ?_; clear hK1 K1
                             obtain ⟨x166, hvh48, h0⟩ := bnd h0
                             refine xw_cut 3 [(48, (vi x136.2.2)), (49, (.ptr 0 0)), (50, (vi x137.2)), (320, (vb x166))] (by (try simp only [go_sem]); rfl) (by (try simp only [go_sem]); rfl) (by rfl) (fun K1 hK1 => ?_) fun tz => ?_
                             ·
                              refine xw_id ?_
                              rcases Bool.eq_false_or_eq_true ((((x164 && ((((((x111.2 == 2) && (x112.2 == 2)) && (x113.2 == 2)) && (x114.2 == 2)) && (x115.2 == 0)) && (x117.2.2 == 0))) && false) && (((x163 && (x133.2.1.Start == 11)) && ((x133.2.1.Held.length : Int) == 1)) && (x134.2.2 == 2))) && (x135.2.2 == 0)) with h48 | h48
                              ·
                               have hvh48 := cT hvh48 h48
                               have h48_0 : (x164) = true := by simp only [Bool.and_eq_true] at h48; exact h48.1.1.1.1
                               have h48_1 : (x111.2 == 2) = true := by simp only [Bool.and_eq_true] at h48; exact h48.1.1.1.2.1.1.1.1.1
                               have h48_2 : (x112.2 == 2) = true := by simp only [Bool.and_eq_true] at h48; exact h48.1.1.1.2.1.1.1.1.2
                               have h48_3 : (x113.2 == 2) = true := by simp only [Bool.and_eq_true] at h48; exact h48.1.1.1.2.1.1.1.2
                               have h48_4 : (x114.2 == 2) = true := by simp only [Bool.and_eq_true] at h48; exact h48.1.1.1.2.1.1.2
                               have h48_5 : (x115.2 == 0) = true := by simp only [Bool.and_eq_true] at h48; exact h48.1.1.1.2.1.2
                               have h48_6 : (x117.2.2 == 0) = true := by simp only [Bool.and_eq_true] at h48; exact h48.1.1.1.2.2
                               have h48_7 : (false) = true := by simp only [Bool.and_eq_true] at h48; exact h48.1.1.2
                               have h48_8 : (x163) = true := by simp only [Bool.and_eq_true] at h48; exact h48.1.2.1.1.1
                               have h48_9 : (x133.2.1.Start == 11) = true := by simp only [Bool.and_eq_true] at h48; exact h48.1.2.1.1.2
                               have h48_10 : ((x133.2.1.Held.length : Int) == 1) = true := by simp only [Bool.and_eq_true] at h48; exact h48.1.2.1.2
                               have h48_11 : (x134.2.2 == 2) = true := by simp only [Bool.and_eq_true] at h48; exact h48.1.2.2
                               have h48_12 : (x135.2.2 == 0) = true := by simp only [Bool.and_eq_true] at h48; exact h48.2
                               obtain ⟨x165, bx165, hvh48⟩ := bnd hvh48
                               try simp only [go_sem, Nat.reduceEqDiff, reduceIte, Nat.reduceAdd, Nat.reduceMul, Nat.reduceSub, Nat.reduceLT, Nat.reduceLeDiff, h48, h48_0, h48_1, h48_2, h48_3, h48_4, h48_5, h48_6, h48_7, h48_8, h48_9, h48_10, h48_11, h48_12]
                               refine xcall_N (by first | (simp only [go_sem, fz, nilS, cond_true, cond_false, Nat.reduceEqDiff, reduceIte, Nat.reduceAdd, Nat.reduceMul, Nat.reduceSub, Nat.reduceLT, Nat.reduceLeDiff]; done) | (simp only [go_sem, fz, nilS, cond_true, cond_false, Nat.reduceEqDiff, reduceIte, Nat.reduceAdd, Nat.reduceMul, Nat.reduceSub, Nat.reduceLT, Nat.reduceLeDiff]; rfl)) (hotspotlaw18_numbers_p x135.1 [] bx165) ?_; try dsimp only
                               try refine xw_id ?_
                               try simp only [go_sem, Nat.reduceEqDiff, reduceIte, Nat.reduceAdd, Nat.reduceMul, Nat.reduceSub, Nat.reduceLT, Nat.reduceLeDiff, h48, h48_0, h48_1, h48_2, h48_3, h48_4, h48_5, h48_6, h48_7, h48_8, h48_9, h48_10, h48_11, h48_12]
                               obtain rfl := someInj hvh48
                               exact hK1 _ ⟨rfl, (by first | rfl | (rw [h48_0]; rfl) | (rw [h48_1]; rfl) | (rw [h48_2]; rfl) | (rw [h48_3]; rfl) | (rw [h48_4]; rfl) | (rw [h48_5]; rfl) | (rw [h48_6]; rfl) | (rw [h48_7]; rfl) | (rw [h48_8]; rfl) | (rw [h48_9]; rfl) | (rw [h48_10]; rfl) | (rw [h48_11]; rfl) | (rw [h48_12]; rfl)), (by first | rfl | (rw [h48_0]; rfl) | (rw [h48_1]; rfl) | (rw [h48_2]; rfl) | (rw [h48_3]; rfl) | (rw [h48_4]; rfl) | (rw [h48_5]; rfl) | (rw [h48_6]; rfl) | (rw [h48_7]; rfl) | (rw [h48_8]; rfl) | (rw [h48_9]; rfl) | (rw [h48_10]; rfl) | (rw [h48_11]; rfl) | (rw [h48_12]; rfl)), (by first | rfl | (rw [h48_0]; rfl) | (rw [h48_1]; rfl) | (rw [h48_2]; rfl) | (rw [h48_3]; rfl) | (rw [h48_4]; rfl) | (rw [h48_5]; rfl) | (rw [h48_6]; rfl) | (rw [h48_7]; rfl) | (rw [h48_8]; rfl) | (rw [h48_9]; rfl) | (rw [h48_10]; rfl) | (rw [h48_11]; rfl) | (rw [h48_12]; rfl)), (by first | rfl | (rw [h48]; rfl) | (simp only [h48, Bool.true_and, Bool.false_and, Bool.true_or, Bool.false_or, cond_true, cond_false]; done)), trivial⟩
                              ·
                               have hvh48 := cF hvh48 h48
                               try simp only [go_sem, Nat.reduceEqDiff, reduceIte, Nat.reduceAdd, Nat.reduceMul, Nat.reduceSub, Nat.reduceLT, Nat.reduceLeDiff, h48]
                               obtain rfl := someInj hvh48
                               exact hK1 _ ⟨rfl, rfl, rfl, rfl, (by first | rfl | (rw [h48]; rfl) | (simp only [h48, Bool.true_and, Bool.false_and, Bool.true_or, Bool.false_or, cond_true, cond_false]; done)), trivial⟩
                             ·
                              refine xw_id ?_
                              refine xw_stop 1 (by (try simp only [go_sem]); rfl) (by (try simp only [go_sem]); rfl) (by rfl) fun K1 hK1 => ?_
                              refine xw_id ?_
                              try simp only [go_sem, Nat.reduceEqDiff, reduceIte, Nat.reduceAdd, Nat.reduceMul, Nat.reduceSub, Nat.reduceLT, Nat.reduceLeDiff]
                              refine hK1 _ ?_; clear hK1 K1
                              refine xw_cut 3 [(49, (.ptr 0 0)), (50, (vi x137.2)), (324, (vb (x166 && (x136.2.2 == 2))))] (by (try simp only [go_sem]); rfl) (by (try simp only [go_sem]); rfl) (by rfl) (fun K1 hK1 => ?_) fun tz => ?_
                              ·
                               refine xw_id ?_
                               rcases Bool.eq_false_or_eq_true x166 with h49 | h49
                               ·
                                try simp only [go_sem, Nat.reduceEqDiff, reduceIte, Nat.reduceAdd, Nat.reduceMul, Nat.reduceSub, Nat.reduceLT, Nat.reduceLeDiff, h49]
                                exact hK1 _ ⟨rfl, rfl, rfl, (by first | rfl | (rw [h49]; rfl) | (simp only [h49, Bool.true_and, Bool.false_and, Bool.true_or, Bool.false_or, cond_true, cond_false]; done)), trivial⟩
                               ·
                                try simp only [go_sem, Nat.reduceEqDiff, reduceIte, Nat.reduceAdd, Nat.reduceMul, Nat.reduceSub, Nat.reduceLT, Nat.reduceLeDiff, h49]
                                exact hK1 _ ⟨rfl, rfl, rfl, (by first | rfl | (rw [h49]; rfl) | (simp only [h49, Bool.true_and, Bool.false_and, Bool.true_or, Bool.false_or, cond_true, cond_false]; done)), trivial⟩
                              ·
                               refine xw_id ?_
                               refine xw_stop 1 (by (try simp only [go_sem]); rfl) (by (try simp only [go_sem]); rfl) (by rfl) fun K1 hK1 => ?_
                               refine xw_id ?_
                               try simp only [go_sem, Nat.reduceEqDiff, reduceIte, Nat.reduceAdd, Nat.reduceMul, Nat.reduceSub, Nat.reduceLT, Nat.reduceLeDiff]
                               refine hK1 _ ?_; clear hK1 K1
                               refine xw_cut 3 [(49, (.ptr 0 0)), (328, (vb ((x166 && (x136.2.2 == 2)) && (x137.2 == 0))))] (by (try simp only [go_sem]); rfl) (by (try simp only [go_sem]); rfl) (by rfl) (fun K1 hK1 => ?_) fun tz => ?_
                               ·
                                refine xw_id ?_
                                rcases Bool.eq_false_or_eq_true (x166 && (x136.2.2 == 2)) with h50 | h50
                                ·
                                 have h50_0 : (x166) = true := by simp only [Bool.and_eq_true] at h50; exact h50.1
                                 have h50_1 : (x136.2.2 == 2) = true := by simp only [Bool.and_eq_true] at h50; exact h50.2
                                 try simp only [go_sem, Nat.reduceEqDiff, reduceIte, Nat.reduceAdd, Nat.reduceMul, Nat.reduceSub, Nat.reduceLT, Nat.reduceLeDiff, h50, h50_0, h50_1]
                                 exact hK1 _ ⟨rfl, (by first | rfl | (rw [h50_0]; rfl) | (rw [h50_1]; rfl)), (by first | rfl | (rw [h50]; rfl) | (simp only [h50, Bool.true_and, Bool.false_and, Bool.true_or, Bool.false_or, cond_true, cond_false]; done)), trivial⟩
                                ·
                                 try simp only [go_sem, Nat.reduceEqDiff, reduceIte, Nat.reduceAdd, Nat.reduceMul, Nat.reduceSub, Nat.reduceLT, Nat.reduceLeDiff, h50]
                                 exact hK1 _ ⟨rfl, rfl, (by first | rfl | (rw [h50]; rfl) | (simp only [h50, Bool.true_and, Bool.false_and, Bool.true_or, Bool.false_or, cond_true, cond_false]; done)), trivial⟩
                               ·
                                refine xw_id ?_
                                refine xw_stop 1 (by (try simp only [go_sem]); rfl) (by (try simp only [go_sem]); rfl) (by rfl) fun K1 hK1 => ?_
                                refine xw_id ?_
                                try simp only [go_sem, Nat.reduceEqDiff, reduceIte, Nat.reduceAdd, Nat.reduceMul, Nat.reduceSub, Nat.reduceLT, Nat.reduceLeDiff]
                                refine hK1 _ ?_; clear hK1 K1
                                refine xw_cut 4 [(333, (vb (((x166 && (x136.2.2 == 2)) && (x137.2 == 0)) && (decide (x137.1 = { Window.z with Bits := 4, Start := 10 })))))] (by (try simp only [go_sem]); rfl) (by (try simp only [go_sem]); rfl) (by rfl) (fun K1 hK1 => ?_) fun tz => ?_
                                ·
                                 refine xw_id ?_
                                 rcases Bool.eq_false_or_eq_true ((x166 && (x136.2.2 == 2)) && (x137.2 == 0)) with h51 | h51
                                 ·
                                  have h51_0 : (x166) = true := by simp only [Bool.and_eq_true] at h51; exact h51.1.1
                                  have h51_1 : (x136.2.2 == 2) = true := by simp only [Bool.and_eq_true] at h51; exact h51.1.2
                                  have h51_2 : (x137.2 == 0) = true := by simp only [Bool.and_eq_true] at h51; exact h51.2
                                  try simp only [go_sem, Nat.reduceEqDiff, reduceIte, Nat.reduceAdd, Nat.reduceMul, Nat.reduceSub, Nat.reduceLT, Nat.reduceLeDiff, h51, h51_0, h51_1, h51_2]
                                  exact hK1 _ ⟨rfl, (by first | rfl | (rw [h51]; rfl) | (simp only [h51, Bool.true_and, Bool.false_and, Bool.true_or, Bool.false_or, cond_true, cond_false]; done)), trivial⟩
                                 ·
                                  try simp only [go_sem, Nat.reduceEqDiff, reduceIte, Nat.reduceAdd, Nat.reduceMul, Nat.reduceSub, Nat.reduceLT, Nat.reduceLeDiff, h51]
                                  exact hK1 _ ⟨rfl, (by first | rfl | (rw [h51]; rfl) | (simp only [h51, Bool.true_and, Bool.false_and, Bool.true_or, Bool.false_or, cond_true, cond_false]; done)), trivial⟩
                                ·
                                 refine xw_id ?_
                                 try simp only [go_sem, Nat.reduceEqDiff, reduceIte, Nat.reduceAdd, Nat.reduceMul, Nat.reduceSub, Nat.reduceLT, Nat.reduceLeDiff]
                                 refine hKK _ _ (Wk.refl _ _ _) ?_; clear hKK KK
                                 refine awp_ret1 ?_
                                 obtain rfl := someInj h0
                                 refine endW_i ?_
                                 refine end_ret0 rs10 (rfl) ?_
                                 try simp only [go_sem, Nat.reduceEqDiff, reduceIte, Nat.reduceAdd, Nat.reduceMul, Nat.reduceSub, Nat.reduceLT, Nat.reduceLeDiff, fz, nilS, packR, List.take_nil, List.take_length, List.length_map, List.length_append, cond_true, cond_false, Nat.ble_eq, ble_self]
                                 all_goals first | rfl | (simp only [go_sem, Nat.reduceEqDiff, reduceIte, Nat.reduceAdd, Nat.reduceMul, Nat.reduceSub, Nat.reduceLT, Nat.reduceLeDiff, fz, nilS, packR, List.take_nil, List.take_length, List.length_map, List.length_append, cond_true, cond_false, Nat.ble_eq, ble_self, List.map_append] <;> rfl)

end Go.AX.Z.TR
