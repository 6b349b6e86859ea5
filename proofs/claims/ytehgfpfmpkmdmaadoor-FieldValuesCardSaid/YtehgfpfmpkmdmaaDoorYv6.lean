-- WArr (what this claim uses of them)
import Derived.Test.YtehgfpfmpkmdmaaDoorYv0
