-- WAt (what this claim uses of them)
import Derived.Test.YtehgfpfmpkmdmaaDoorYv12
